/- OriginNetworks' walk, whole. Conditions: the port's full neighbours lie in memory. -/
import Derived.Test.YtdilbcmnfpmijaaOriR
namespace Go.Proofs.Ytdilbcmnfpmijaa
open Go.RowKit Go.Lo

set_option maxRecDepth 100000 in
theorem originNet_big (p : OPort) (r o : Int) (w : World) (hs : Sl w w.heap.size 1 p.fv p.full.length (p.full.flatMap u32Cells)) (hn : 400 < p.full.length) : Calls Try.prog 8 #[portVal p, .int .u32 r, .int .u8 o] w fun e w' => e = .returned (.bool true) ∧ Below w.heap.size w w' := by
  obtain ⟨kind, state, addr, netA, netB, pcost, dr, withDR, fv, full, remote⟩ := p
  obtain ⟨_, A, c, hv, _⟩ := hs
  simp only at hv hn
  subst hv
  have hB0 : Below w.heap.size w (w.alloc (.cells #[.int .u8 kind, .int .u8 state, .int .u32 addr, .int .u32 netA, .int .u8 netB, .int .u16 pcost, .int .u32 dr, .bool withDR, .slice A full.length c, .int .u32 remote] 72)) := (Below.refl _ _).alloc (Nat.le_refl _) _
  have h400 : (400 : Int) < (full.length : Int) := by omega
  have h400' : ¬ (full.length : Int) ≤ 400 := by omega
  go_enter Try.func8, Try.ntmps8
  go_wp2_with (go_at_call 11; refine Calls.mono (works22_any _) ?_; rintro e w1 ⟨rfl, hB1⟩)
  go_ret
  exact ⟨rfl, below_call hB0 hB1 (Nat.le_refl _)⟩

theorem originNet_any (p : OPort) (r o : Int) (w : World) (hp : PortAt w p) (hn : p.full.length ≤ 400) : Calls Try.prog 8 #[portVal p, .int .u32 r, .int .u8 o] w fun e w' => e = .returned (.bool true) ∧ Below w.heap.size w w' := by
  by_cases hs : p.state = 6
  · by_cases hk : 1 < p.kind
    · exact originNet_quiet p r o w hp hn (.inr ⟨hs, .inl hk⟩)
    · rcases Nat.eq_zero_or_pos p.full.length with h0 | h0
      · exact originNet_quiet p r o w hp hn (.inr ⟨hs, .inr h0⟩)
      · exact originNet_told p r o w hp hn hs hk h0
  · exact originNet_quiet p r o w hp hn (.inl hs)
end Go.Proofs.Ytdilbcmnfpmijaa
