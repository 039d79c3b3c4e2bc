/- origin's Network of a port that is not in the designated state, and a whole store of ten cells inside a region. Conditions: named at each theorem. -/
import Derived.Test.YtdilbcmnfpmijaaOriH
import Derived.Laws.ResultCell
namespace Go.Proofs.Ytdilbcmnfpmijaa
open Go.RowKit Go.Lo

theorem results_cell_tmp_row {P : Program} {fn : Func} {p u : Tmp} {ty : TypeId} (h : fn.results = #[.cell p ty, .tmp u]) (tmps : Array Value) (w : World) (g : Nat) (t : TypeId) (cs : Array Value) (fr : Nat × Nat) (d : TypeDesc)
    (hp : tmps.getD p undef = .pointer (some ⟨g, 0, none⟩)) (hg : w.heap[g]? = some (.cells cs t fr))
    (hu : P.underlying ty = some d) (hd : (match d with | .struct _ | .array _ _ => true | _ => false) = true) (hi : (P.info? ty).map (·.size) = some cs.size) :
    (results fn tmps).run P w = .ok (.tuple #[.agg cs, tmps.getD u undef]) w := by
  rw [results_cell_tmp h, hp]
  simp [asAddr, run_loadVar_row w g t ty cs fr d hg hu hd hi, Result.andThen]

abbrev toldZ : Array Value := #[.int .u8 0, .int .u32 0, .int .u8 0, .int .u8 0, .slice none 0 0, .int .u32 0, .slice none 0 0, .int .u32 0, .bool false, .int .u32 0, .int .u32 0, .slice none 0 0]

set_option maxRecDepth 100000 in
set_option maxHeartbeats 1000000 in
theorem network_quiet (p : OPort) (r o : Int) (w : World) (hs : p.state ≠ 6) : Calls Try.prog 25 #[portVal p, .int .u32 r, .int .u8 o] w fun e w' =>
    e = .returned (.tuple #[.agg toldZ, .bool false]) ∧ Below w.heap.size w w' := by
  obtain ⟨kind, state, addr, netA, netB, pcost, dr, withDR, fv, full, remote⟩ := p
  have hB0 : Below w.heap.size w ((w.alloc (.cells #[.int .u8 kind, .int .u8 state, .int .u32 addr, .int .u32 netA, .int .u8 netB, .int .u16 pcost, .int .u32 dr, .bool withDR, fv, .int .u32 remote] 73)).alloc (.cells toldZ 34)) := ((Below.refl _ _).alloc (Nat.le_refl _) _).alloc (by simp) _
  have hT0 : Blk ((w.alloc (.cells #[.int .u8 kind, .int .u8 state, .int .u32 addr, .int .u32 netA, .int .u8 netB, .int .u16 pcost, .int .u32 dr, .bool withDR, fv, .int .u32 remote] 73)).alloc (.cells toldZ 34)) (w.heap.size + 1) 34 toldZ := heap_alloc2_new w _ _
  have hs' : (state != 6) = true := by simpa using hs
  have hset := setRow_heap ((w.alloc (.cells #[.int .u8 kind, .int .u8 state, .int .u32 addr, .int .u32 netA, .int .u8 netB, .int .u16 pcost, .int .u32 dr, .bool withDR, fv, .int .u32 remote] 73)).alloc (.cells toldZ 34)) (w.heap.size + 1) _ toldZ 34 (0, 0) hT0
  rcases Int.lt_or_le 1 kind with hk | hk
  · have hk2 : ¬ kind ≤ 1 := by omega
    go_enter Try.func25, Try.ntmps25
    go_wp2_with (refine wpList_store_row rfl 34 (.tmp 6) (.tmp 23) rfl (w.heap.size + 1) toldZ rfl rfl 34 _ hT0 (by kernel_rfl) rfl (by simp [Value.oneCell']) ?_)
    refine bodyPost_ret (results_cell_tmp_row rfl _ _ (w.heap.size + 1) 34 toldZ (0, 0) _ rfl hset Try.underlying34 rfl (by kernel_rfl)) rfl ?_
    exact ⟨rfl, hB0.trans ⟨rfl, rfl, rfl, by simp [World.setRow], fun k hk => setRow_other _ _ k _ (by omega)⟩⟩
  · have hk2 : ¬ 1 < kind := by omega
    go_enter Try.func25, Try.ntmps25
    go_wp2_with (refine wpList_store_row rfl 34 (.tmp 6) (.tmp 23) rfl (w.heap.size + 1) toldZ rfl rfl 34 _ hT0 (by kernel_rfl) rfl (by simp [Value.oneCell']) ?_)
    refine bodyPost_ret (results_cell_tmp_row rfl _ _ (w.heap.size + 1) 34 toldZ (0, 0) _ rfl hset Try.underlying34 rfl (by kernel_rfl)) rfl ?_
    exact ⟨rfl, hB0.trans ⟨rfl, rfl, rfl, by simp [World.setRow], fun k hk => setRow_other _ _ k _ (by omega)⟩⟩
end Go.Proofs.Ytdilbcmnfpmijaa
