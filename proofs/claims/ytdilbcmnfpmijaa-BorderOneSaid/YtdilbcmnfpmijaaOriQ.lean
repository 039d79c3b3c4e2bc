/- OriginNetworks' walk. Conditions: the port's full neighbours lie in memory. -/
import Derived.Test.YtdilbcmnfpmijaaOriP
namespace Go.Proofs.Ytdilbcmnfpmijaa
open Go.RowKit Go.Lo

set_option maxRecDepth 100000 in
set_option maxHeartbeats 2000000 in
theorem originNet_quiet (p : OPort) (r o : Int) (w : World) (hp : PortAt w p) (hn : p.full.length ≤ 400) (hq : p.state ≠ 6 ∨ (p.state = 6 ∧ (1 < p.kind ∨ p.full.length = 0))) : Calls Try.prog 8 #[portVal p, .int .u32 r, .int .u8 o] w fun e w' => e = .returned (.bool true) ∧ Below w.heap.size w w' := by
  have hp' := hp
  obtain ⟨kind, state, addr, netA, netB, pcost, dr, withDR, fv, full, remote⟩ := p
  obtain ⟨⟨_, A, c, hv, _⟩, _, hb0, hb1⟩ := hp
  simp only at hv hn hq
  subst hv
  have hP0 : Blk (w.alloc (.cells #[.int .u8 kind, .int .u8 state, .int .u32 addr, .int .u32 netA, .int .u8 netB, .int .u16 pcost, .int .u32 dr, .bool withDR, .slice A full.length c, .int .u32 remote] 72)) w.heap.size 72 #[.int .u8 kind, .int .u8 state, .int .u32 addr, .int .u32 netA, .int .u8 netB, .int .u16 pcost, .int .u32 dr, .bool withDR, .slice A full.length c, .int .u32 remote] := Blk.new _ _ _
  have hB0 : Below w.heap.size w (w.alloc (.cells #[.int .u8 kind, .int .u8 state, .int .u32 addr, .int .u32 netA, .int .u8 netB, .int .u16 pcost, .int .u32 dr, .bool withDR, .slice A full.length c, .int .u32 remote] 72)) := (Below.refl _ _).alloc (Nat.le_refl _) _
  have hZ0 : ((w.alloc (.cells #[.int .u8 kind, .int .u8 state, .int .u32 addr, .int .u32 netA, .int .u8 netB, .int .u16 pcost, .int .u32 dr, .bool withDR, .slice A full.length c, .int .u32 remote] 72)) : World).heap.size = w.heap.size + 1 := by simp
  have i400 : ¬ (400 : Int) < (full.length : Int) := by omega
  go_enter Try.func8, Try.ntmps8
  go_upto_region 3 with fail
  generalize (w.alloc (.cells #[.int .u8 kind, .int .u8 state, .int .u32 addr, .int .u32 netA, .int .u8 netB, .int .u16 pcost, .int .u32 dr, .bool withDR, .slice A full.length c, .int .u32 remote] 72)) = W0 at hP0 hB0 hZ0 ⊢
  have hPW : PortAt W0 ⟨kind, state, addr, netA, netB, pcost, dr, withDR, .slice A full.length c, full, remote⟩ := hp'.below hB0
  have CG := given22_any ⟨kind, state, addr, netA, netB, pcost, dr, withDR, .slice A full.length c, full, remote⟩ W0 hPW
  dsimp only at CG
  replace CG := Lib.hid CG
  have HN : Hid (∀ (p : OPort) (W : World), PortAt W p → p.state = state → p.kind = kind → p.full = full → Calls Try.prog 25 #[portVal p, .int .u32 r, .int .u8 o] W fun e w' => e = .returned (.tuple #[.agg toldZ, .bool false]) ∧ Below W.heap.size W w') := by
    intro p W hP h1 h2 h3
    subst h1 h2 h3
    rcases hq with h | ⟨h, h'⟩
    · exact network_quiet p r o W h
    · exact network_none p r o W hP h h'
  have z0 := hP0.cell 0
  have z1 := hP0.cell 1
  have z2 := hP0.cell 2
  have z3 := hP0.cell 3
  have z4 := hP0.cell 4
  have z5 := hP0.cell 5
  have z6 := hP0.cell 6
  have z7 := hP0.cell 7
  have z8 := hP0.cell 8
  have z9 := hP0.cell 9
  simp only [List.getElem?_toArray, List.getElem?_cons_zero, List.getElem?_cons_succ] at z0 z1 z2 z3 z4 z5 z6 z7 z8 z9
  replace hPW := Lib.hid hPW
  replace hp' := Lib.hid hp'
  go_upto_region 4 with (first
    | (go_at_call 23; refine Calls.mono CG.out ?_; rintro e w1 ⟨A1, c1, rfl, ho1, hB1⟩; have hz0 := hZ0; dsimp only)
    | (go_at_call 25; refine Calls.mono (HN.out ⟨kind, state, addr, netA, netB, pcost, dr, withDR, .slice A1 full.length c1, full, remote⟩ w1 ⟨Sl.of_own ho1, by show full.length ≤ 1000000; omega, hb0, hb1⟩ rfl rfl rfl) ?_; rintro e w2 ⟨rfl, hB2⟩; dsimp only)
    | fail)
  have hB3 : Below (w.heap.size + 1) W0 (w2.alloc (.cells toldZ 34)) := below_alloc (below_call (below_call (Below.refl _ _) hB1 (by omega)) hB2 (by omega)) (by omega) _
  clear z0 z1 z2 z3 z4 z5 z6 z7 z8 z9
  generalize w2.alloc (.cells toldZ 34) = w3 at hB3 ⊢
  have hP3 := hP0.below hB3 (by omega)
  have z0 := hP3.cell 0
  have z1 := hP3.cell 1
  have z2 := hP3.cell 2
  have z3 := hP3.cell 3
  have z4 := hP3.cell 4
  have z5 := hP3.cell 5
  have z6 := hP3.cell 6
  have z7 := hP3.cell 7
  have z8 := hP3.cell 8
  have z9 := hP3.cell 9
  simp only [List.getElem?_toArray, List.getElem?_cons_zero, List.getElem?_cons_succ] at z0 z1 z2 z3 z4 z5 z6 z7 z8 z9
  have hBe : Below w.heap.size w w3 := hB0.trans (hB3.mono (by omega))
  clear ho1 hB1 hB2 hP0 hP3 HN CG hPW hp' hB0 hB3 hZ0 hz0
  have fin : ∀ w4, Below w3.heap.size w3 w4 → Below w.heap.size w w4 := fun w4 h => hBe.trans (h.mono hBe.size)
  replace fin := Lib.hid fin
  clear hBe
  rcases Int.lt_or_le 1 kind with hk | hk
  · have hk2 : ¬ kind ≤ 1 := by omega
    clear hq
    go_wp2_with (go_at_call 11; refine Calls.mono (works22_any _) ?_; rintro e w4 ⟨rfl, hB4⟩)
    go_ret
    exact ⟨rfl, fin.out _ hB4⟩
  · have hk2 : ¬ 1 < kind := by omega
    by_cases hs : state = 6
    · have hl : full.length = 0 := by omega
      obtain rfl : full = [] := List.eq_nil_of_length_eq_zero hl
      subst hs
      clear hq
      go_wp2_with (go_at_call 11; refine Calls.mono (works22_any _) ?_; rintro e w4 ⟨rfl, hB4⟩)
      go_ret
      exact ⟨rfl, fin.out _ hB4⟩
    · have hs2 : (state == 6) = false := beq_false_of_ne hs
      clear hq
      go_wp2_with (go_at_call 11; refine Calls.mono (works22_any _) ?_; rintro e w4 ⟨rfl, hB4⟩)
      go_ret
      exact ⟨rfl, fin.out _ hB4⟩
end Go.Proofs.Ytdilbcmnfpmijaa
