/- origin's Links: what a port says. Conditions: the port's full neighbours lie in memory. -/
import Derived.Test.YtdilbcmnfpmijaaOriD
namespace Go.Proofs.Ytdilbcmnfpmijaa
open Go.RowKit Go.Lo

theorem says_miss {kind : Int} (hk : 4 < kind) : Instr.findNow (.int .u8) (.int .u8 kind) saysE.toList 0 = some none := by
  have b0 : (kind == 0) = false := beq_eq_false_iff_ne.2 (by omega)
  have b1 : (kind == 1) = false := beq_eq_false_iff_ne.2 (by omega)
  have b2 : (kind == 2) = false := beq_eq_false_iff_ne.2 (by omega)
  have b3 : (kind == 3) = false := beq_eq_false_iff_ne.2 (by omega)
  have b4 : (kind == 4) = false := beq_eq_false_iff_ne.2 (by omega)
  simp [saysE, Instr.findNow, Instr.sameNow, b0, b1, b2, b3, b4]
theorem says_look (w : World) : Calls Try.prog 33 #[] w fun e w' => ∃ r, e = .returned (.map (some r)) ∧ Below w.heap.size w w' ∧ w'.heap[r]? = some (.map saysE 5) := by
  refine Calls.mono (says_any w) ?_
  rintro e w' ⟨rfl, rfl⟩
  exact ⟨_, rfl, (Below.refl _ _).alloc (Nat.le_refl _) _, heap_alloc_new w _⟩
theorem LinksPost.from_ {w w1 w2 : World} {l : List OLink} {e : Ending} (hB : Below w.heap.size w w1) (h : LinksPost w1 l e w2) : LinksPost w l e w2 := by
  obtain ⟨v, rfl, ho, hB2⟩ := h
  exact ⟨v, rfl, own_less ho hB.size, hB.trans (hB2.mono hB.size)⟩
theorem LinksPost.nil_ {w w1 : World} (hB : Below w.heap.size w w1) : LinksPost w [] (.returned (.slice none 0 0)) w1 := ⟨_, rfl, World.ownsRow_nil _ _ _ _, hB⟩
theorem LinksPost.one_ {w W : World} (x : OLink) {b : Nat} (hb : W.heap.size = b) (hB : Below w.heap.size w W) :
    LinksPost w [x] (.returned (.slice (some ⟨b, 0, none⟩) 1 1)) (W.alloc (.cells #[.int .u32 x.1, .int .u32 x.2.1, .int .u8 x.2.2.1, .int .u16 x.2.2.2] 42)) :=
  ⟨_, rfl, one_link x hb hB⟩

set_option maxRecDepth 100000 in
set_option maxHeartbeats 1000000 in
theorem links0 (p : OPort) (most : Bool) (w : World) (hp : PortAt w p) (hk : p.kind = 0) : Calls Try.prog 24 #[portVal p, .bool most] w (LinksPost w (linksL p most)) := by
  have hp' := hp
  obtain ⟨kind, state, addr, netA, netB, pcost, dr, withDR, fv, full, remote⟩ := p
  obtain ⟨⟨_, A, c, hv, _⟩, hn, hb0, hb1⟩ := hp
  simp only at hv hk
  subst hv hk
  have hW : ∀ W : World, Below (w.heap.size + 1) (w.alloc (.cells #[.int .u8 0, .int .u8 state, .int .u32 addr, .int .u32 netA, .int .u8 netB, .int .u16 pcost, .int .u32 dr, .bool withDR, .slice A full.length c, .int .u32 remote] 73)) W → Below w.heap.size w W := fun _ h => ((Below.refl _ _).alloc (Nat.le_refl _) _).trans (h.mono (by omega))
  replace hW := Lib.hid hW
  have HS : Hid (∀ W, Calls Try.prog 34 #[portVal ⟨0, state, addr, netA, netB, pcost, dr, withDR, .slice A full.length c, full, remote⟩] W fun e w' => e = .returned (.agg #[.int .u32 netA, .int .u32 (maskI netB), .int .u8 3, .int .u16 pcost]) ∧ Below W.heap.size W w') := fun W =>
    stub_any ⟨0, state, addr, netA, netB, pcost, dr, withDR, .slice A full.length c, full, remote⟩ ⟨hb0, hb1⟩ W
  have HF : Hid (∀ W cost, Below (w.heap.size + 1) (w.alloc (.cells #[.int .u8 0, .int .u8 state, .int .u32 addr, .int .u32 netA, .int .u8 netB, .int .u16 pcost, .int .u32 dr, .bool withDR, .slice A full.length c, .int .u32 remote] 73)) W → Calls Try.prog 48 #[portVal ⟨0, state, addr, netA, netB, pcost, dr, withDR, .slice A full.length c, full, remote⟩, .int .u16 cost] W (LinksPost W (kindL ⟨0, state, addr, netA, netB, pcost, dr, withDR, .slice A full.length c, full, remote⟩ cost))) := fun W cost h =>
    shared_any ⟨0, state, addr, netA, netB, pcost, dr, withDR, .slice A full.length c, full, remote⟩ cost W (hp'.below (hW.out _ h))
  have b0 : ∀ W, Below (w.heap.size + 1) (w.alloc (.cells #[.int .u8 0, .int .u8 state, .int .u32 addr, .int .u32 netA, .int .u8 netB, .int .u16 pcost, .int .u32 dr, .bool withDR, .slice A full.length c, .int .u32 remote] 73)) W → W.cell? ⟨w.heap.size, 0, none⟩ = some (.int .u8 0) := fun W h => (h.cell (p := ⟨w.heap.size, 0, none⟩) (Nat.lt_succ_self _)).trans ((World.cell?_alloc_at _ _ _ _ rfl).trans rfl)
  have b1 : ∀ W, Below (w.heap.size + 1) (w.alloc (.cells #[.int .u8 0, .int .u8 state, .int .u32 addr, .int .u32 netA, .int .u8 netB, .int .u16 pcost, .int .u32 dr, .bool withDR, .slice A full.length c, .int .u32 remote] 73)) W → W.cell? ⟨w.heap.size, 1, none⟩ = some (.int .u8 state) := fun W h => (h.cell (p := ⟨w.heap.size, 1, none⟩) (Nat.lt_succ_self _)).trans ((World.cell?_alloc_at _ _ _ _ rfl).trans rfl)
  have b2 : ∀ W, Below (w.heap.size + 1) (w.alloc (.cells #[.int .u8 0, .int .u8 state, .int .u32 addr, .int .u32 netA, .int .u8 netB, .int .u16 pcost, .int .u32 dr, .bool withDR, .slice A full.length c, .int .u32 remote] 73)) W → W.cell? ⟨w.heap.size, 2, none⟩ = some (.int .u32 addr) := fun W h => (h.cell (p := ⟨w.heap.size, 2, none⟩) (Nat.lt_succ_self _)).trans ((World.cell?_alloc_at _ _ _ _ rfl).trans rfl)
  have b3 : ∀ W, Below (w.heap.size + 1) (w.alloc (.cells #[.int .u8 0, .int .u8 state, .int .u32 addr, .int .u32 netA, .int .u8 netB, .int .u16 pcost, .int .u32 dr, .bool withDR, .slice A full.length c, .int .u32 remote] 73)) W → W.cell? ⟨w.heap.size, 3, none⟩ = some (.int .u32 netA) := fun W h => (h.cell (p := ⟨w.heap.size, 3, none⟩) (Nat.lt_succ_self _)).trans ((World.cell?_alloc_at _ _ _ _ rfl).trans rfl)
  have b4 : ∀ W, Below (w.heap.size + 1) (w.alloc (.cells #[.int .u8 0, .int .u8 state, .int .u32 addr, .int .u32 netA, .int .u8 netB, .int .u16 pcost, .int .u32 dr, .bool withDR, .slice A full.length c, .int .u32 remote] 73)) W → W.cell? ⟨w.heap.size, 4, none⟩ = some (.int .u8 netB) := fun W h => (h.cell (p := ⟨w.heap.size, 4, none⟩) (Nat.lt_succ_self _)).trans ((World.cell?_alloc_at _ _ _ _ rfl).trans rfl)
  have b5 : ∀ W, Below (w.heap.size + 1) (w.alloc (.cells #[.int .u8 0, .int .u8 state, .int .u32 addr, .int .u32 netA, .int .u8 netB, .int .u16 pcost, .int .u32 dr, .bool withDR, .slice A full.length c, .int .u32 remote] 73)) W → W.cell? ⟨w.heap.size, 5, none⟩ = some (.int .u16 pcost) := fun W h => (h.cell (p := ⟨w.heap.size, 5, none⟩) (Nat.lt_succ_self _)).trans ((World.cell?_alloc_at _ _ _ _ rfl).trans rfl)
  have b6 : ∀ W, Below (w.heap.size + 1) (w.alloc (.cells #[.int .u8 0, .int .u8 state, .int .u32 addr, .int .u32 netA, .int .u8 netB, .int .u16 pcost, .int .u32 dr, .bool withDR, .slice A full.length c, .int .u32 remote] 73)) W → W.cell? ⟨w.heap.size, 6, none⟩ = some (.int .u32 dr) := fun W h => (h.cell (p := ⟨w.heap.size, 6, none⟩) (Nat.lt_succ_self _)).trans ((World.cell?_alloc_at _ _ _ _ rfl).trans rfl)
  have b7 : ∀ W, Below (w.heap.size + 1) (w.alloc (.cells #[.int .u8 0, .int .u8 state, .int .u32 addr, .int .u32 netA, .int .u8 netB, .int .u16 pcost, .int .u32 dr, .bool withDR, .slice A full.length c, .int .u32 remote] 73)) W → W.cell? ⟨w.heap.size, 7, none⟩ = some (.bool withDR) := fun W h => (h.cell (p := ⟨w.heap.size, 7, none⟩) (Nat.lt_succ_self _)).trans ((World.cell?_alloc_at _ _ _ _ rfl).trans rfl)
  have b8 : ∀ W, Below (w.heap.size + 1) (w.alloc (.cells #[.int .u8 0, .int .u8 state, .int .u32 addr, .int .u32 netA, .int .u8 netB, .int .u16 pcost, .int .u32 dr, .bool withDR, .slice A full.length c, .int .u32 remote] 73)) W → W.cell? ⟨w.heap.size, 8, none⟩ = some (.slice A full.length c) := fun W h => (h.cell (p := ⟨w.heap.size, 8, none⟩) (Nat.lt_succ_self _)).trans ((World.cell?_alloc_at _ _ _ _ rfl).trans rfl)
  have b9 : ∀ W, Below (w.heap.size + 1) (w.alloc (.cells #[.int .u8 0, .int .u8 state, .int .u32 addr, .int .u32 netA, .int .u8 netB, .int .u16 pcost, .int .u32 dr, .bool withDR, .slice A full.length c, .int .u32 remote] 73)) W → W.cell? ⟨w.heap.size, 9, none⟩ = some (.int .u32 remote) := fun W h => (h.cell (p := ⟨w.heap.size, 9, none⟩) (Nat.lt_succ_self _)).trans ((World.cell?_alloc_at _ _ _ _ rfl).trans rfl)
  go_enter Try.func24, Try.ntmps24
  go_wp2_with fail
  go_region_held3 (fun W => Below (w.heap.size + 1) (w.alloc (.cells #[.int .u8 0, .int .u8 state, .int .u32 addr, .int .u32 netA, .int .u8 netB, .int .u16 pcost, .int .u32 dr, .bool withDR, .slice A full.length c, .int .u32 remote] 73)) W) (first | exact (Below.refl _ _).drew | assumption)
    ((go_at_call 33; refine Calls.mono (says_look _) ?_; rintro e w1 ⟨r1, rfl, hB1, hr1⟩; have hS1 : Below (w.heap.size + 1) (w.alloc (.cells #[.int .u8 0, .int .u8 state, .int .u32 addr, .int .u32 netA, .int .u8 netB, .int .u16 pcost, .int .u32 dr, .bool withDR, .slice A full.length c, .int .u32 remote] 73)) w1 := Below.trans (by first | assumption | exact (Below.refl _ _).drew) (hB1.mono (by simp)); have hlk := run_look8 (P := Try.prog) Try.underlying104 Try.underlying5 hr1 0 (i := 0) (v := .func (.func 48) #[] #[]) (by rfl)))
  clear hlk hB1 hr1
  by_cases h0 : state = 0
  · have hev : linksL ⟨0, state, addr, netA, netB, pcost, dr, withDR, .slice A full.length c, full, remote⟩ most = [] := if_pos (.inr (.inl h0))
    have hev := Lib.hid hev
    have d0 : (state == 0) = true := beq_iff_eq.2 h0
    replace h0 := Lib.hid h0
    go_wp2_with fail
    go_ret
    rw [hev.out]
    exact LinksPost.nil_ (hW.out _ hS1)
  have d0 : (state == 0) = false := beq_eq_false_iff_ne.2 h0
  by_cases h1 : state = 1
  · have hev : linksL ⟨0, state, addr, netA, netB, pcost, dr, withDR, .slice A full.length c, full, remote⟩ most = [(netA, maskI netB, 3, pcost)] := (if_neg (by simp [h1])).trans (if_pos h1)
    have hev := Lib.hid hev
    have d1 : (state == 1) = true := beq_iff_eq.2 h1
    replace h0 := Lib.hid h0
    replace h1 := Lib.hid h1
    go_wp2_with fail
    refine Calls.mono (HS.out _) ?_
    rintro e w2 ⟨rfl, hB2⟩
    have hz1 := hS1.size
    have hS2 := (hW.out _ hS1).trans (hB2.mono (hW.out _ hS1).size)
    go_wp2_with fail
    go_ret
    rw [hev.out]
    exact LinksPost.one_ (netA, maskI netB, 3, pcost) rfl hS2
  have d1 : (state == 1) = false := beq_eq_false_iff_ne.2 h1
  have hev : linksL ⟨0, state, addr, netA, netB, pcost, dr, withDR, .slice A full.length c, full, remote⟩ most = kindL ⟨0, state, addr, netA, netB, pcost, dr, withDR, .slice A full.length c, full, remote⟩ (if most then 65535 else pcost) := (if_neg (by simp [h0, h1])).trans (if_neg h1)
  have hev := Lib.hid hev
  replace h0 := Lib.hid h0
  replace h1 := Lib.hid h1
  cases most
  · go_wp2_with fail
    refine Calls.mono (HF.out _ _ (by assumption)) ?_
    rintro e w2 hl
    have hl' := LinksPost.from_ (hW.out _ hS1) hl
    obtain ⟨v2, rfl, _⟩ := hl
    go_wp2_with fail
    go_ret
    rw [hev.out]
    exact hl'
  · go_wp2_with fail
    refine Calls.mono (HF.out _ _ (by assumption)) ?_
    rintro e w2 hl
    have hl' := LinksPost.from_ (hW.out _ hS1) hl
    obtain ⟨v2, rfl, _⟩ := hl
    go_wp2_with fail
    go_ret
    rw [hev.out]
    exact hl'

set_option maxRecDepth 100000 in
set_option maxHeartbeats 1000000 in
theorem links1 (p : OPort) (most : Bool) (w : World) (hp : PortAt w p) (hk : p.kind = 1) : Calls Try.prog 24 #[portVal p, .bool most] w (LinksPost w (linksL p most)) := by
  have hp' := hp
  obtain ⟨kind, state, addr, netA, netB, pcost, dr, withDR, fv, full, remote⟩ := p
  obtain ⟨⟨_, A, c, hv, _⟩, hn, hb0, hb1⟩ := hp
  simp only at hv hk
  subst hv hk
  have hW : ∀ W : World, Below (w.heap.size + 1) (w.alloc (.cells #[.int .u8 1, .int .u8 state, .int .u32 addr, .int .u32 netA, .int .u8 netB, .int .u16 pcost, .int .u32 dr, .bool withDR, .slice A full.length c, .int .u32 remote] 73)) W → Below w.heap.size w W := fun _ h => ((Below.refl _ _).alloc (Nat.le_refl _) _).trans (h.mono (by omega))
  replace hW := Lib.hid hW
  have HS : Hid (∀ W, Calls Try.prog 34 #[portVal ⟨1, state, addr, netA, netB, pcost, dr, withDR, .slice A full.length c, full, remote⟩] W fun e w' => e = .returned (.agg #[.int .u32 netA, .int .u32 (maskI netB), .int .u8 3, .int .u16 pcost]) ∧ Below W.heap.size W w') := fun W =>
    stub_any ⟨1, state, addr, netA, netB, pcost, dr, withDR, .slice A full.length c, full, remote⟩ ⟨hb0, hb1⟩ W
  have HF : Hid (∀ W cost, Below (w.heap.size + 1) (w.alloc (.cells #[.int .u8 1, .int .u8 state, .int .u32 addr, .int .u32 netA, .int .u8 netB, .int .u16 pcost, .int .u32 dr, .bool withDR, .slice A full.length c, .int .u32 remote] 73)) W → Calls Try.prog 48 #[portVal ⟨1, state, addr, netA, netB, pcost, dr, withDR, .slice A full.length c, full, remote⟩, .int .u16 cost] W (LinksPost W (kindL ⟨1, state, addr, netA, netB, pcost, dr, withDR, .slice A full.length c, full, remote⟩ cost))) := fun W cost h =>
    shared_any ⟨1, state, addr, netA, netB, pcost, dr, withDR, .slice A full.length c, full, remote⟩ cost W (hp'.below (hW.out _ h))
  have b0 : ∀ W, Below (w.heap.size + 1) (w.alloc (.cells #[.int .u8 1, .int .u8 state, .int .u32 addr, .int .u32 netA, .int .u8 netB, .int .u16 pcost, .int .u32 dr, .bool withDR, .slice A full.length c, .int .u32 remote] 73)) W → W.cell? ⟨w.heap.size, 0, none⟩ = some (.int .u8 1) := fun W h => (h.cell (p := ⟨w.heap.size, 0, none⟩) (Nat.lt_succ_self _)).trans ((World.cell?_alloc_at _ _ _ _ rfl).trans rfl)
  have b1 : ∀ W, Below (w.heap.size + 1) (w.alloc (.cells #[.int .u8 1, .int .u8 state, .int .u32 addr, .int .u32 netA, .int .u8 netB, .int .u16 pcost, .int .u32 dr, .bool withDR, .slice A full.length c, .int .u32 remote] 73)) W → W.cell? ⟨w.heap.size, 1, none⟩ = some (.int .u8 state) := fun W h => (h.cell (p := ⟨w.heap.size, 1, none⟩) (Nat.lt_succ_self _)).trans ((World.cell?_alloc_at _ _ _ _ rfl).trans rfl)
  have b2 : ∀ W, Below (w.heap.size + 1) (w.alloc (.cells #[.int .u8 1, .int .u8 state, .int .u32 addr, .int .u32 netA, .int .u8 netB, .int .u16 pcost, .int .u32 dr, .bool withDR, .slice A full.length c, .int .u32 remote] 73)) W → W.cell? ⟨w.heap.size, 2, none⟩ = some (.int .u32 addr) := fun W h => (h.cell (p := ⟨w.heap.size, 2, none⟩) (Nat.lt_succ_self _)).trans ((World.cell?_alloc_at _ _ _ _ rfl).trans rfl)
  have b3 : ∀ W, Below (w.heap.size + 1) (w.alloc (.cells #[.int .u8 1, .int .u8 state, .int .u32 addr, .int .u32 netA, .int .u8 netB, .int .u16 pcost, .int .u32 dr, .bool withDR, .slice A full.length c, .int .u32 remote] 73)) W → W.cell? ⟨w.heap.size, 3, none⟩ = some (.int .u32 netA) := fun W h => (h.cell (p := ⟨w.heap.size, 3, none⟩) (Nat.lt_succ_self _)).trans ((World.cell?_alloc_at _ _ _ _ rfl).trans rfl)
  have b4 : ∀ W, Below (w.heap.size + 1) (w.alloc (.cells #[.int .u8 1, .int .u8 state, .int .u32 addr, .int .u32 netA, .int .u8 netB, .int .u16 pcost, .int .u32 dr, .bool withDR, .slice A full.length c, .int .u32 remote] 73)) W → W.cell? ⟨w.heap.size, 4, none⟩ = some (.int .u8 netB) := fun W h => (h.cell (p := ⟨w.heap.size, 4, none⟩) (Nat.lt_succ_self _)).trans ((World.cell?_alloc_at _ _ _ _ rfl).trans rfl)
  have b5 : ∀ W, Below (w.heap.size + 1) (w.alloc (.cells #[.int .u8 1, .int .u8 state, .int .u32 addr, .int .u32 netA, .int .u8 netB, .int .u16 pcost, .int .u32 dr, .bool withDR, .slice A full.length c, .int .u32 remote] 73)) W → W.cell? ⟨w.heap.size, 5, none⟩ = some (.int .u16 pcost) := fun W h => (h.cell (p := ⟨w.heap.size, 5, none⟩) (Nat.lt_succ_self _)).trans ((World.cell?_alloc_at _ _ _ _ rfl).trans rfl)
  have b6 : ∀ W, Below (w.heap.size + 1) (w.alloc (.cells #[.int .u8 1, .int .u8 state, .int .u32 addr, .int .u32 netA, .int .u8 netB, .int .u16 pcost, .int .u32 dr, .bool withDR, .slice A full.length c, .int .u32 remote] 73)) W → W.cell? ⟨w.heap.size, 6, none⟩ = some (.int .u32 dr) := fun W h => (h.cell (p := ⟨w.heap.size, 6, none⟩) (Nat.lt_succ_self _)).trans ((World.cell?_alloc_at _ _ _ _ rfl).trans rfl)
  have b7 : ∀ W, Below (w.heap.size + 1) (w.alloc (.cells #[.int .u8 1, .int .u8 state, .int .u32 addr, .int .u32 netA, .int .u8 netB, .int .u16 pcost, .int .u32 dr, .bool withDR, .slice A full.length c, .int .u32 remote] 73)) W → W.cell? ⟨w.heap.size, 7, none⟩ = some (.bool withDR) := fun W h => (h.cell (p := ⟨w.heap.size, 7, none⟩) (Nat.lt_succ_self _)).trans ((World.cell?_alloc_at _ _ _ _ rfl).trans rfl)
  have b8 : ∀ W, Below (w.heap.size + 1) (w.alloc (.cells #[.int .u8 1, .int .u8 state, .int .u32 addr, .int .u32 netA, .int .u8 netB, .int .u16 pcost, .int .u32 dr, .bool withDR, .slice A full.length c, .int .u32 remote] 73)) W → W.cell? ⟨w.heap.size, 8, none⟩ = some (.slice A full.length c) := fun W h => (h.cell (p := ⟨w.heap.size, 8, none⟩) (Nat.lt_succ_self _)).trans ((World.cell?_alloc_at _ _ _ _ rfl).trans rfl)
  have b9 : ∀ W, Below (w.heap.size + 1) (w.alloc (.cells #[.int .u8 1, .int .u8 state, .int .u32 addr, .int .u32 netA, .int .u8 netB, .int .u16 pcost, .int .u32 dr, .bool withDR, .slice A full.length c, .int .u32 remote] 73)) W → W.cell? ⟨w.heap.size, 9, none⟩ = some (.int .u32 remote) := fun W h => (h.cell (p := ⟨w.heap.size, 9, none⟩) (Nat.lt_succ_self _)).trans ((World.cell?_alloc_at _ _ _ _ rfl).trans rfl)
  go_enter Try.func24, Try.ntmps24
  go_wp2_with fail
  go_region_held3 (fun W => Below (w.heap.size + 1) (w.alloc (.cells #[.int .u8 1, .int .u8 state, .int .u32 addr, .int .u32 netA, .int .u8 netB, .int .u16 pcost, .int .u32 dr, .bool withDR, .slice A full.length c, .int .u32 remote] 73)) W) (first | exact (Below.refl _ _).drew | assumption)
    ((go_at_call 33; refine Calls.mono (says_look _) ?_; rintro e w1 ⟨r1, rfl, hB1, hr1⟩; have hS1 : Below (w.heap.size + 1) (w.alloc (.cells #[.int .u8 1, .int .u8 state, .int .u32 addr, .int .u32 netA, .int .u8 netB, .int .u16 pcost, .int .u32 dr, .bool withDR, .slice A full.length c, .int .u32 remote] 73)) w1 := Below.trans (by first | assumption | exact (Below.refl _ _).drew) (hB1.mono (by simp)); have hlk := run_look8 (P := Try.prog) Try.underlying104 Try.underlying5 hr1 1 (i := 1) (v := .func (.func 48) #[] #[]) (by rfl)))
  clear hlk hB1 hr1
  by_cases h0 : state = 0
  · have hev : linksL ⟨1, state, addr, netA, netB, pcost, dr, withDR, .slice A full.length c, full, remote⟩ most = [] := if_pos (.inr (.inl h0))
    have hev := Lib.hid hev
    have d0 : (state == 0) = true := beq_iff_eq.2 h0
    replace h0 := Lib.hid h0
    go_wp2_with fail
    go_ret
    rw [hev.out]
    exact LinksPost.nil_ (hW.out _ hS1)
  have d0 : (state == 0) = false := beq_eq_false_iff_ne.2 h0
  by_cases h1 : state = 1
  · have hev : linksL ⟨1, state, addr, netA, netB, pcost, dr, withDR, .slice A full.length c, full, remote⟩ most = [(netA, maskI netB, 3, pcost)] := (if_neg (by simp [h1])).trans (if_pos h1)
    have hev := Lib.hid hev
    have d1 : (state == 1) = true := beq_iff_eq.2 h1
    replace h0 := Lib.hid h0
    replace h1 := Lib.hid h1
    go_wp2_with fail
    refine Calls.mono (HS.out _) ?_
    rintro e w2 ⟨rfl, hB2⟩
    have hz1 := hS1.size
    have hS2 := (hW.out _ hS1).trans (hB2.mono (hW.out _ hS1).size)
    go_wp2_with fail
    go_ret
    rw [hev.out]
    exact LinksPost.one_ (netA, maskI netB, 3, pcost) rfl hS2
  have d1 : (state == 1) = false := beq_eq_false_iff_ne.2 h1
  have hev : linksL ⟨1, state, addr, netA, netB, pcost, dr, withDR, .slice A full.length c, full, remote⟩ most = kindL ⟨1, state, addr, netA, netB, pcost, dr, withDR, .slice A full.length c, full, remote⟩ (if most then 65535 else pcost) := (if_neg (by simp [h0, h1])).trans (if_neg h1)
  have hev := Lib.hid hev
  replace h0 := Lib.hid h0
  replace h1 := Lib.hid h1
  cases most
  · go_wp2_with fail
    refine Calls.mono (HF.out _ _ (by assumption)) ?_
    rintro e w2 hl
    have hl' := LinksPost.from_ (hW.out _ hS1) hl
    obtain ⟨v2, rfl, _⟩ := hl
    go_wp2_with fail
    go_ret
    rw [hev.out]
    exact hl'
  · go_wp2_with fail
    refine Calls.mono (HF.out _ _ (by assumption)) ?_
    rintro e w2 hl
    have hl' := LinksPost.from_ (hW.out _ hS1) hl
    obtain ⟨v2, rfl, _⟩ := hl
    go_wp2_with fail
    go_ret
    rw [hev.out]
    exact hl'

set_option maxRecDepth 100000 in
set_option maxHeartbeats 1000000 in
theorem links2 (p : OPort) (most : Bool) (w : World) (hp : PortAt w p) (hk : p.kind = 2) : Calls Try.prog 24 #[portVal p, .bool most] w (LinksPost w (linksL p most)) := by
  have hp' := hp
  obtain ⟨kind, state, addr, netA, netB, pcost, dr, withDR, fv, full, remote⟩ := p
  obtain ⟨⟨_, A, c, hv, _⟩, hn, hb0, hb1⟩ := hp
  simp only at hv hk
  subst hv hk
  have hW : ∀ W : World, Below (w.heap.size + 1) (w.alloc (.cells #[.int .u8 2, .int .u8 state, .int .u32 addr, .int .u32 netA, .int .u8 netB, .int .u16 pcost, .int .u32 dr, .bool withDR, .slice A full.length c, .int .u32 remote] 73)) W → Below w.heap.size w W := fun _ h => ((Below.refl _ _).alloc (Nat.le_refl _) _).trans (h.mono (by omega))
  replace hW := Lib.hid hW
  have HS : Hid (∀ W, Calls Try.prog 34 #[portVal ⟨2, state, addr, netA, netB, pcost, dr, withDR, .slice A full.length c, full, remote⟩] W fun e w' => e = .returned (.agg #[.int .u32 netA, .int .u32 (maskI netB), .int .u8 3, .int .u16 pcost]) ∧ Below W.heap.size W w') := fun W =>
    stub_any ⟨2, state, addr, netA, netB, pcost, dr, withDR, .slice A full.length c, full, remote⟩ ⟨hb0, hb1⟩ W
  have HF : Hid (∀ W cost, Below (w.heap.size + 1) (w.alloc (.cells #[.int .u8 2, .int .u8 state, .int .u32 addr, .int .u32 netA, .int .u8 netB, .int .u16 pcost, .int .u32 dr, .bool withDR, .slice A full.length c, .int .u32 remote] 73)) W → Calls Try.prog 49 #[portVal ⟨2, state, addr, netA, netB, pcost, dr, withDR, .slice A full.length c, full, remote⟩, .int .u16 cost] W (LinksPost W (kindL ⟨2, state, addr, netA, netB, pcost, dr, withDR, .slice A full.length c, full, remote⟩ cost))) := fun W cost h =>
    multi_any ⟨2, state, addr, netA, netB, pcost, dr, withDR, .slice A full.length c, full, remote⟩ cost W (hp'.below (hW.out _ h))
  have b0 : ∀ W, Below (w.heap.size + 1) (w.alloc (.cells #[.int .u8 2, .int .u8 state, .int .u32 addr, .int .u32 netA, .int .u8 netB, .int .u16 pcost, .int .u32 dr, .bool withDR, .slice A full.length c, .int .u32 remote] 73)) W → W.cell? ⟨w.heap.size, 0, none⟩ = some (.int .u8 2) := fun W h => (h.cell (p := ⟨w.heap.size, 0, none⟩) (Nat.lt_succ_self _)).trans ((World.cell?_alloc_at _ _ _ _ rfl).trans rfl)
  have b1 : ∀ W, Below (w.heap.size + 1) (w.alloc (.cells #[.int .u8 2, .int .u8 state, .int .u32 addr, .int .u32 netA, .int .u8 netB, .int .u16 pcost, .int .u32 dr, .bool withDR, .slice A full.length c, .int .u32 remote] 73)) W → W.cell? ⟨w.heap.size, 1, none⟩ = some (.int .u8 state) := fun W h => (h.cell (p := ⟨w.heap.size, 1, none⟩) (Nat.lt_succ_self _)).trans ((World.cell?_alloc_at _ _ _ _ rfl).trans rfl)
  have b2 : ∀ W, Below (w.heap.size + 1) (w.alloc (.cells #[.int .u8 2, .int .u8 state, .int .u32 addr, .int .u32 netA, .int .u8 netB, .int .u16 pcost, .int .u32 dr, .bool withDR, .slice A full.length c, .int .u32 remote] 73)) W → W.cell? ⟨w.heap.size, 2, none⟩ = some (.int .u32 addr) := fun W h => (h.cell (p := ⟨w.heap.size, 2, none⟩) (Nat.lt_succ_self _)).trans ((World.cell?_alloc_at _ _ _ _ rfl).trans rfl)
  have b3 : ∀ W, Below (w.heap.size + 1) (w.alloc (.cells #[.int .u8 2, .int .u8 state, .int .u32 addr, .int .u32 netA, .int .u8 netB, .int .u16 pcost, .int .u32 dr, .bool withDR, .slice A full.length c, .int .u32 remote] 73)) W → W.cell? ⟨w.heap.size, 3, none⟩ = some (.int .u32 netA) := fun W h => (h.cell (p := ⟨w.heap.size, 3, none⟩) (Nat.lt_succ_self _)).trans ((World.cell?_alloc_at _ _ _ _ rfl).trans rfl)
  have b4 : ∀ W, Below (w.heap.size + 1) (w.alloc (.cells #[.int .u8 2, .int .u8 state, .int .u32 addr, .int .u32 netA, .int .u8 netB, .int .u16 pcost, .int .u32 dr, .bool withDR, .slice A full.length c, .int .u32 remote] 73)) W → W.cell? ⟨w.heap.size, 4, none⟩ = some (.int .u8 netB) := fun W h => (h.cell (p := ⟨w.heap.size, 4, none⟩) (Nat.lt_succ_self _)).trans ((World.cell?_alloc_at _ _ _ _ rfl).trans rfl)
  have b5 : ∀ W, Below (w.heap.size + 1) (w.alloc (.cells #[.int .u8 2, .int .u8 state, .int .u32 addr, .int .u32 netA, .int .u8 netB, .int .u16 pcost, .int .u32 dr, .bool withDR, .slice A full.length c, .int .u32 remote] 73)) W → W.cell? ⟨w.heap.size, 5, none⟩ = some (.int .u16 pcost) := fun W h => (h.cell (p := ⟨w.heap.size, 5, none⟩) (Nat.lt_succ_self _)).trans ((World.cell?_alloc_at _ _ _ _ rfl).trans rfl)
  have b6 : ∀ W, Below (w.heap.size + 1) (w.alloc (.cells #[.int .u8 2, .int .u8 state, .int .u32 addr, .int .u32 netA, .int .u8 netB, .int .u16 pcost, .int .u32 dr, .bool withDR, .slice A full.length c, .int .u32 remote] 73)) W → W.cell? ⟨w.heap.size, 6, none⟩ = some (.int .u32 dr) := fun W h => (h.cell (p := ⟨w.heap.size, 6, none⟩) (Nat.lt_succ_self _)).trans ((World.cell?_alloc_at _ _ _ _ rfl).trans rfl)
  have b7 : ∀ W, Below (w.heap.size + 1) (w.alloc (.cells #[.int .u8 2, .int .u8 state, .int .u32 addr, .int .u32 netA, .int .u8 netB, .int .u16 pcost, .int .u32 dr, .bool withDR, .slice A full.length c, .int .u32 remote] 73)) W → W.cell? ⟨w.heap.size, 7, none⟩ = some (.bool withDR) := fun W h => (h.cell (p := ⟨w.heap.size, 7, none⟩) (Nat.lt_succ_self _)).trans ((World.cell?_alloc_at _ _ _ _ rfl).trans rfl)
  have b8 : ∀ W, Below (w.heap.size + 1) (w.alloc (.cells #[.int .u8 2, .int .u8 state, .int .u32 addr, .int .u32 netA, .int .u8 netB, .int .u16 pcost, .int .u32 dr, .bool withDR, .slice A full.length c, .int .u32 remote] 73)) W → W.cell? ⟨w.heap.size, 8, none⟩ = some (.slice A full.length c) := fun W h => (h.cell (p := ⟨w.heap.size, 8, none⟩) (Nat.lt_succ_self _)).trans ((World.cell?_alloc_at _ _ _ _ rfl).trans rfl)
  have b9 : ∀ W, Below (w.heap.size + 1) (w.alloc (.cells #[.int .u8 2, .int .u8 state, .int .u32 addr, .int .u32 netA, .int .u8 netB, .int .u16 pcost, .int .u32 dr, .bool withDR, .slice A full.length c, .int .u32 remote] 73)) W → W.cell? ⟨w.heap.size, 9, none⟩ = some (.int .u32 remote) := fun W h => (h.cell (p := ⟨w.heap.size, 9, none⟩) (Nat.lt_succ_self _)).trans ((World.cell?_alloc_at _ _ _ _ rfl).trans rfl)
  go_enter Try.func24, Try.ntmps24
  go_wp2_with fail
  go_region_held3 (fun W => Below (w.heap.size + 1) (w.alloc (.cells #[.int .u8 2, .int .u8 state, .int .u32 addr, .int .u32 netA, .int .u8 netB, .int .u16 pcost, .int .u32 dr, .bool withDR, .slice A full.length c, .int .u32 remote] 73)) W) (first | exact (Below.refl _ _).drew | assumption)
    ((go_at_call 33; refine Calls.mono (says_look _) ?_; rintro e w1 ⟨r1, rfl, hB1, hr1⟩; have hS1 : Below (w.heap.size + 1) (w.alloc (.cells #[.int .u8 2, .int .u8 state, .int .u32 addr, .int .u32 netA, .int .u8 netB, .int .u16 pcost, .int .u32 dr, .bool withDR, .slice A full.length c, .int .u32 remote] 73)) w1 := Below.trans (by first | assumption | exact (Below.refl _ _).drew) (hB1.mono (by simp)); have hlk := run_look8 (P := Try.prog) Try.underlying104 Try.underlying5 hr1 2 (i := 2) (v := .func (.func 49) #[] #[]) (by rfl)))
  clear hlk hB1 hr1
  by_cases h0 : state = 0
  · have hev : linksL ⟨2, state, addr, netA, netB, pcost, dr, withDR, .slice A full.length c, full, remote⟩ most = [] := if_pos (.inr (.inl h0))
    have hev := Lib.hid hev
    have d0 : (state == 0) = true := beq_iff_eq.2 h0
    replace h0 := Lib.hid h0
    go_wp2_with fail
    go_ret
    rw [hev.out]
    exact LinksPost.nil_ (hW.out _ hS1)
  have d0 : (state == 0) = false := beq_eq_false_iff_ne.2 h0
  by_cases h1 : state = 1
  · have hev : linksL ⟨2, state, addr, netA, netB, pcost, dr, withDR, .slice A full.length c, full, remote⟩ most = [(netA, maskI netB, 3, pcost)] := (if_neg (by simp [h1])).trans (if_pos h1)
    have hev := Lib.hid hev
    have d1 : (state == 1) = true := beq_iff_eq.2 h1
    replace h0 := Lib.hid h0
    replace h1 := Lib.hid h1
    go_wp2_with fail
    refine Calls.mono (HS.out _) ?_
    rintro e w2 ⟨rfl, hB2⟩
    have hz1 := hS1.size
    have hS2 := (hW.out _ hS1).trans (hB2.mono (hW.out _ hS1).size)
    go_wp2_with fail
    go_ret
    rw [hev.out]
    exact LinksPost.one_ (netA, maskI netB, 3, pcost) rfl hS2
  have d1 : (state == 1) = false := beq_eq_false_iff_ne.2 h1
  have hev : linksL ⟨2, state, addr, netA, netB, pcost, dr, withDR, .slice A full.length c, full, remote⟩ most = kindL ⟨2, state, addr, netA, netB, pcost, dr, withDR, .slice A full.length c, full, remote⟩ (if most then 65535 else pcost) := (if_neg (by simp [h0, h1])).trans (if_neg h1)
  have hev := Lib.hid hev
  replace h0 := Lib.hid h0
  replace h1 := Lib.hid h1
  cases most
  · go_wp2_with fail
    refine Calls.mono (HF.out _ _ (by assumption)) ?_
    rintro e w2 hl
    have hl' := LinksPost.from_ (hW.out _ hS1) hl
    obtain ⟨v2, rfl, _⟩ := hl
    go_wp2_with fail
    go_ret
    rw [hev.out]
    exact hl'
  · go_wp2_with fail
    refine Calls.mono (HF.out _ _ (by assumption)) ?_
    rintro e w2 hl
    have hl' := LinksPost.from_ (hW.out _ hS1) hl
    obtain ⟨v2, rfl, _⟩ := hl
    go_wp2_with fail
    go_ret
    rw [hev.out]
    exact hl'

set_option maxRecDepth 100000 in
set_option maxHeartbeats 1000000 in
theorem links3 (p : OPort) (most : Bool) (w : World) (hp : PortAt w p) (hk : p.kind = 3) : Calls Try.prog 24 #[portVal p, .bool most] w (LinksPost w (linksL p most)) := by
  have hp' := hp
  obtain ⟨kind, state, addr, netA, netB, pcost, dr, withDR, fv, full, remote⟩ := p
  obtain ⟨⟨_, A, c, hv, _⟩, hn, hb0, hb1⟩ := hp
  simp only at hv hk
  subst hv hk
  have hW : ∀ W : World, Below (w.heap.size + 1) (w.alloc (.cells #[.int .u8 3, .int .u8 state, .int .u32 addr, .int .u32 netA, .int .u8 netB, .int .u16 pcost, .int .u32 dr, .bool withDR, .slice A full.length c, .int .u32 remote] 73)) W → Below w.heap.size w W := fun _ h => ((Below.refl _ _).alloc (Nat.le_refl _) _).trans (h.mono (by omega))
  replace hW := Lib.hid hW
  have HS : Hid (∀ W, Calls Try.prog 34 #[portVal ⟨3, state, addr, netA, netB, pcost, dr, withDR, .slice A full.length c, full, remote⟩] W fun e w' => e = .returned (.agg #[.int .u32 netA, .int .u32 (maskI netB), .int .u8 3, .int .u16 pcost]) ∧ Below W.heap.size W w') := fun W =>
    stub_any ⟨3, state, addr, netA, netB, pcost, dr, withDR, .slice A full.length c, full, remote⟩ ⟨hb0, hb1⟩ W
  have HF : Hid (∀ W cost, Below (w.heap.size + 1) (w.alloc (.cells #[.int .u8 3, .int .u8 state, .int .u32 addr, .int .u32 netA, .int .u8 netB, .int .u16 pcost, .int .u32 dr, .bool withDR, .slice A full.length c, .int .u32 remote] 73)) W → Calls Try.prog 50 #[portVal ⟨3, state, addr, netA, netB, pcost, dr, withDR, .slice A full.length c, full, remote⟩, .int .u16 cost] W (LinksPost W (kindL ⟨3, state, addr, netA, netB, pcost, dr, withDR, .slice A full.length c, full, remote⟩ cost))) := fun W cost h =>
    point_any ⟨3, state, addr, netA, netB, pcost, dr, withDR, .slice A full.length c, full, remote⟩ cost W (hp'.below (hW.out _ h))
  have b0 : ∀ W, Below (w.heap.size + 1) (w.alloc (.cells #[.int .u8 3, .int .u8 state, .int .u32 addr, .int .u32 netA, .int .u8 netB, .int .u16 pcost, .int .u32 dr, .bool withDR, .slice A full.length c, .int .u32 remote] 73)) W → W.cell? ⟨w.heap.size, 0, none⟩ = some (.int .u8 3) := fun W h => (h.cell (p := ⟨w.heap.size, 0, none⟩) (Nat.lt_succ_self _)).trans ((World.cell?_alloc_at _ _ _ _ rfl).trans rfl)
  have b1 : ∀ W, Below (w.heap.size + 1) (w.alloc (.cells #[.int .u8 3, .int .u8 state, .int .u32 addr, .int .u32 netA, .int .u8 netB, .int .u16 pcost, .int .u32 dr, .bool withDR, .slice A full.length c, .int .u32 remote] 73)) W → W.cell? ⟨w.heap.size, 1, none⟩ = some (.int .u8 state) := fun W h => (h.cell (p := ⟨w.heap.size, 1, none⟩) (Nat.lt_succ_self _)).trans ((World.cell?_alloc_at _ _ _ _ rfl).trans rfl)
  have b2 : ∀ W, Below (w.heap.size + 1) (w.alloc (.cells #[.int .u8 3, .int .u8 state, .int .u32 addr, .int .u32 netA, .int .u8 netB, .int .u16 pcost, .int .u32 dr, .bool withDR, .slice A full.length c, .int .u32 remote] 73)) W → W.cell? ⟨w.heap.size, 2, none⟩ = some (.int .u32 addr) := fun W h => (h.cell (p := ⟨w.heap.size, 2, none⟩) (Nat.lt_succ_self _)).trans ((World.cell?_alloc_at _ _ _ _ rfl).trans rfl)
  have b3 : ∀ W, Below (w.heap.size + 1) (w.alloc (.cells #[.int .u8 3, .int .u8 state, .int .u32 addr, .int .u32 netA, .int .u8 netB, .int .u16 pcost, .int .u32 dr, .bool withDR, .slice A full.length c, .int .u32 remote] 73)) W → W.cell? ⟨w.heap.size, 3, none⟩ = some (.int .u32 netA) := fun W h => (h.cell (p := ⟨w.heap.size, 3, none⟩) (Nat.lt_succ_self _)).trans ((World.cell?_alloc_at _ _ _ _ rfl).trans rfl)
  have b4 : ∀ W, Below (w.heap.size + 1) (w.alloc (.cells #[.int .u8 3, .int .u8 state, .int .u32 addr, .int .u32 netA, .int .u8 netB, .int .u16 pcost, .int .u32 dr, .bool withDR, .slice A full.length c, .int .u32 remote] 73)) W → W.cell? ⟨w.heap.size, 4, none⟩ = some (.int .u8 netB) := fun W h => (h.cell (p := ⟨w.heap.size, 4, none⟩) (Nat.lt_succ_self _)).trans ((World.cell?_alloc_at _ _ _ _ rfl).trans rfl)
  have b5 : ∀ W, Below (w.heap.size + 1) (w.alloc (.cells #[.int .u8 3, .int .u8 state, .int .u32 addr, .int .u32 netA, .int .u8 netB, .int .u16 pcost, .int .u32 dr, .bool withDR, .slice A full.length c, .int .u32 remote] 73)) W → W.cell? ⟨w.heap.size, 5, none⟩ = some (.int .u16 pcost) := fun W h => (h.cell (p := ⟨w.heap.size, 5, none⟩) (Nat.lt_succ_self _)).trans ((World.cell?_alloc_at _ _ _ _ rfl).trans rfl)
  have b6 : ∀ W, Below (w.heap.size + 1) (w.alloc (.cells #[.int .u8 3, .int .u8 state, .int .u32 addr, .int .u32 netA, .int .u8 netB, .int .u16 pcost, .int .u32 dr, .bool withDR, .slice A full.length c, .int .u32 remote] 73)) W → W.cell? ⟨w.heap.size, 6, none⟩ = some (.int .u32 dr) := fun W h => (h.cell (p := ⟨w.heap.size, 6, none⟩) (Nat.lt_succ_self _)).trans ((World.cell?_alloc_at _ _ _ _ rfl).trans rfl)
  have b7 : ∀ W, Below (w.heap.size + 1) (w.alloc (.cells #[.int .u8 3, .int .u8 state, .int .u32 addr, .int .u32 netA, .int .u8 netB, .int .u16 pcost, .int .u32 dr, .bool withDR, .slice A full.length c, .int .u32 remote] 73)) W → W.cell? ⟨w.heap.size, 7, none⟩ = some (.bool withDR) := fun W h => (h.cell (p := ⟨w.heap.size, 7, none⟩) (Nat.lt_succ_self _)).trans ((World.cell?_alloc_at _ _ _ _ rfl).trans rfl)
  have b8 : ∀ W, Below (w.heap.size + 1) (w.alloc (.cells #[.int .u8 3, .int .u8 state, .int .u32 addr, .int .u32 netA, .int .u8 netB, .int .u16 pcost, .int .u32 dr, .bool withDR, .slice A full.length c, .int .u32 remote] 73)) W → W.cell? ⟨w.heap.size, 8, none⟩ = some (.slice A full.length c) := fun W h => (h.cell (p := ⟨w.heap.size, 8, none⟩) (Nat.lt_succ_self _)).trans ((World.cell?_alloc_at _ _ _ _ rfl).trans rfl)
  have b9 : ∀ W, Below (w.heap.size + 1) (w.alloc (.cells #[.int .u8 3, .int .u8 state, .int .u32 addr, .int .u32 netA, .int .u8 netB, .int .u16 pcost, .int .u32 dr, .bool withDR, .slice A full.length c, .int .u32 remote] 73)) W → W.cell? ⟨w.heap.size, 9, none⟩ = some (.int .u32 remote) := fun W h => (h.cell (p := ⟨w.heap.size, 9, none⟩) (Nat.lt_succ_self _)).trans ((World.cell?_alloc_at _ _ _ _ rfl).trans rfl)
  go_enter Try.func24, Try.ntmps24
  go_wp2_with fail
  go_region_held3 (fun W => Below (w.heap.size + 1) (w.alloc (.cells #[.int .u8 3, .int .u8 state, .int .u32 addr, .int .u32 netA, .int .u8 netB, .int .u16 pcost, .int .u32 dr, .bool withDR, .slice A full.length c, .int .u32 remote] 73)) W) (first | exact (Below.refl _ _).drew | assumption)
    ((go_at_call 33; refine Calls.mono (says_look _) ?_; rintro e w1 ⟨r1, rfl, hB1, hr1⟩; have hS1 : Below (w.heap.size + 1) (w.alloc (.cells #[.int .u8 3, .int .u8 state, .int .u32 addr, .int .u32 netA, .int .u8 netB, .int .u16 pcost, .int .u32 dr, .bool withDR, .slice A full.length c, .int .u32 remote] 73)) w1 := Below.trans (by first | assumption | exact (Below.refl _ _).drew) (hB1.mono (by simp)); have hlk := run_look8 (P := Try.prog) Try.underlying104 Try.underlying5 hr1 3 (i := 3) (v := .func (.func 50) #[] #[]) (by rfl)))
  clear hlk hB1 hr1
  by_cases h0 : state = 0
  · have hev : linksL ⟨3, state, addr, netA, netB, pcost, dr, withDR, .slice A full.length c, full, remote⟩ most = [] := if_pos (.inr (.inl h0))
    have hev := Lib.hid hev
    have d0 : (state == 0) = true := beq_iff_eq.2 h0
    replace h0 := Lib.hid h0
    go_wp2_with fail
    go_ret
    rw [hev.out]
    exact LinksPost.nil_ (hW.out _ hS1)
  have d0 : (state == 0) = false := beq_eq_false_iff_ne.2 h0
  by_cases h1 : state = 1
  · have hev : linksL ⟨3, state, addr, netA, netB, pcost, dr, withDR, .slice A full.length c, full, remote⟩ most = [(netA, maskI netB, 3, pcost)] := (if_neg (by simp [h1])).trans (if_pos h1)
    have hev := Lib.hid hev
    have d1 : (state == 1) = true := beq_iff_eq.2 h1
    replace h0 := Lib.hid h0
    replace h1 := Lib.hid h1
    go_wp2_with fail
    refine Calls.mono (HS.out _) ?_
    rintro e w2 ⟨rfl, hB2⟩
    have hz1 := hS1.size
    have hS2 := (hW.out _ hS1).trans (hB2.mono (hW.out _ hS1).size)
    go_wp2_with fail
    go_ret
    rw [hev.out]
    exact LinksPost.one_ (netA, maskI netB, 3, pcost) rfl hS2
  have d1 : (state == 1) = false := beq_eq_false_iff_ne.2 h1
  have hev : linksL ⟨3, state, addr, netA, netB, pcost, dr, withDR, .slice A full.length c, full, remote⟩ most = kindL ⟨3, state, addr, netA, netB, pcost, dr, withDR, .slice A full.length c, full, remote⟩ (if most then 65535 else pcost) := (if_neg (by simp [h0, h1])).trans (if_neg h1)
  have hev := Lib.hid hev
  replace h0 := Lib.hid h0
  replace h1 := Lib.hid h1
  cases most
  · go_wp2_with fail
    refine Calls.mono (HF.out _ _ (by assumption)) ?_
    rintro e w2 hl
    have hl' := LinksPost.from_ (hW.out _ hS1) hl
    obtain ⟨v2, rfl, _⟩ := hl
    go_wp2_with fail
    go_ret
    rw [hev.out]
    exact hl'
  · go_wp2_with fail
    refine Calls.mono (HF.out _ _ (by assumption)) ?_
    rintro e w2 hl
    have hl' := LinksPost.from_ (hW.out _ hS1) hl
    obtain ⟨v2, rfl, _⟩ := hl
    go_wp2_with fail
    go_ret
    rw [hev.out]
    exact hl'

set_option maxRecDepth 100000 in
set_option maxHeartbeats 1000000 in
theorem links4 (p : OPort) (most : Bool) (w : World) (hp : PortAt w p) (hk : p.kind = 4) : Calls Try.prog 24 #[portVal p, .bool most] w (LinksPost w (linksL p most)) := by
  have hp' := hp
  obtain ⟨kind, state, addr, netA, netB, pcost, dr, withDR, fv, full, remote⟩ := p
  obtain ⟨⟨_, A, c, hv, _⟩, hn, hb0, hb1⟩ := hp
  simp only at hv hk
  subst hv hk
  have hW : ∀ W : World, Below (w.heap.size + 1) (w.alloc (.cells #[.int .u8 4, .int .u8 state, .int .u32 addr, .int .u32 netA, .int .u8 netB, .int .u16 pcost, .int .u32 dr, .bool withDR, .slice A full.length c, .int .u32 remote] 73)) W → Below w.heap.size w W := fun _ h => ((Below.refl _ _).alloc (Nat.le_refl _) _).trans (h.mono (by omega))
  replace hW := Lib.hid hW
  have HS : Hid (∀ W, Calls Try.prog 34 #[portVal ⟨4, state, addr, netA, netB, pcost, dr, withDR, .slice A full.length c, full, remote⟩] W fun e w' => e = .returned (.agg #[.int .u32 netA, .int .u32 (maskI netB), .int .u8 3, .int .u16 pcost]) ∧ Below W.heap.size W w') := fun W =>
    stub_any ⟨4, state, addr, netA, netB, pcost, dr, withDR, .slice A full.length c, full, remote⟩ ⟨hb0, hb1⟩ W
  have HF : Hid (∀ W cost, Below (w.heap.size + 1) (w.alloc (.cells #[.int .u8 4, .int .u8 state, .int .u32 addr, .int .u32 netA, .int .u8 netB, .int .u16 pcost, .int .u32 dr, .bool withDR, .slice A full.length c, .int .u32 remote] 73)) W → Calls Try.prog 51 #[portVal ⟨4, state, addr, netA, netB, pcost, dr, withDR, .slice A full.length c, full, remote⟩, .int .u16 cost] W (LinksPost W (kindL ⟨4, state, addr, netA, netB, pcost, dr, withDR, .slice A full.length c, full, remote⟩ cost))) := fun W cost h =>
    virtual_any ⟨4, state, addr, netA, netB, pcost, dr, withDR, .slice A full.length c, full, remote⟩ cost W (hp'.below (hW.out _ h))
  have b0 : ∀ W, Below (w.heap.size + 1) (w.alloc (.cells #[.int .u8 4, .int .u8 state, .int .u32 addr, .int .u32 netA, .int .u8 netB, .int .u16 pcost, .int .u32 dr, .bool withDR, .slice A full.length c, .int .u32 remote] 73)) W → W.cell? ⟨w.heap.size, 0, none⟩ = some (.int .u8 4) := fun W h => (h.cell (p := ⟨w.heap.size, 0, none⟩) (Nat.lt_succ_self _)).trans ((World.cell?_alloc_at _ _ _ _ rfl).trans rfl)
  have b1 : ∀ W, Below (w.heap.size + 1) (w.alloc (.cells #[.int .u8 4, .int .u8 state, .int .u32 addr, .int .u32 netA, .int .u8 netB, .int .u16 pcost, .int .u32 dr, .bool withDR, .slice A full.length c, .int .u32 remote] 73)) W → W.cell? ⟨w.heap.size, 1, none⟩ = some (.int .u8 state) := fun W h => (h.cell (p := ⟨w.heap.size, 1, none⟩) (Nat.lt_succ_self _)).trans ((World.cell?_alloc_at _ _ _ _ rfl).trans rfl)
  have b2 : ∀ W, Below (w.heap.size + 1) (w.alloc (.cells #[.int .u8 4, .int .u8 state, .int .u32 addr, .int .u32 netA, .int .u8 netB, .int .u16 pcost, .int .u32 dr, .bool withDR, .slice A full.length c, .int .u32 remote] 73)) W → W.cell? ⟨w.heap.size, 2, none⟩ = some (.int .u32 addr) := fun W h => (h.cell (p := ⟨w.heap.size, 2, none⟩) (Nat.lt_succ_self _)).trans ((World.cell?_alloc_at _ _ _ _ rfl).trans rfl)
  have b3 : ∀ W, Below (w.heap.size + 1) (w.alloc (.cells #[.int .u8 4, .int .u8 state, .int .u32 addr, .int .u32 netA, .int .u8 netB, .int .u16 pcost, .int .u32 dr, .bool withDR, .slice A full.length c, .int .u32 remote] 73)) W → W.cell? ⟨w.heap.size, 3, none⟩ = some (.int .u32 netA) := fun W h => (h.cell (p := ⟨w.heap.size, 3, none⟩) (Nat.lt_succ_self _)).trans ((World.cell?_alloc_at _ _ _ _ rfl).trans rfl)
  have b4 : ∀ W, Below (w.heap.size + 1) (w.alloc (.cells #[.int .u8 4, .int .u8 state, .int .u32 addr, .int .u32 netA, .int .u8 netB, .int .u16 pcost, .int .u32 dr, .bool withDR, .slice A full.length c, .int .u32 remote] 73)) W → W.cell? ⟨w.heap.size, 4, none⟩ = some (.int .u8 netB) := fun W h => (h.cell (p := ⟨w.heap.size, 4, none⟩) (Nat.lt_succ_self _)).trans ((World.cell?_alloc_at _ _ _ _ rfl).trans rfl)
  have b5 : ∀ W, Below (w.heap.size + 1) (w.alloc (.cells #[.int .u8 4, .int .u8 state, .int .u32 addr, .int .u32 netA, .int .u8 netB, .int .u16 pcost, .int .u32 dr, .bool withDR, .slice A full.length c, .int .u32 remote] 73)) W → W.cell? ⟨w.heap.size, 5, none⟩ = some (.int .u16 pcost) := fun W h => (h.cell (p := ⟨w.heap.size, 5, none⟩) (Nat.lt_succ_self _)).trans ((World.cell?_alloc_at _ _ _ _ rfl).trans rfl)
  have b6 : ∀ W, Below (w.heap.size + 1) (w.alloc (.cells #[.int .u8 4, .int .u8 state, .int .u32 addr, .int .u32 netA, .int .u8 netB, .int .u16 pcost, .int .u32 dr, .bool withDR, .slice A full.length c, .int .u32 remote] 73)) W → W.cell? ⟨w.heap.size, 6, none⟩ = some (.int .u32 dr) := fun W h => (h.cell (p := ⟨w.heap.size, 6, none⟩) (Nat.lt_succ_self _)).trans ((World.cell?_alloc_at _ _ _ _ rfl).trans rfl)
  have b7 : ∀ W, Below (w.heap.size + 1) (w.alloc (.cells #[.int .u8 4, .int .u8 state, .int .u32 addr, .int .u32 netA, .int .u8 netB, .int .u16 pcost, .int .u32 dr, .bool withDR, .slice A full.length c, .int .u32 remote] 73)) W → W.cell? ⟨w.heap.size, 7, none⟩ = some (.bool withDR) := fun W h => (h.cell (p := ⟨w.heap.size, 7, none⟩) (Nat.lt_succ_self _)).trans ((World.cell?_alloc_at _ _ _ _ rfl).trans rfl)
  have b8 : ∀ W, Below (w.heap.size + 1) (w.alloc (.cells #[.int .u8 4, .int .u8 state, .int .u32 addr, .int .u32 netA, .int .u8 netB, .int .u16 pcost, .int .u32 dr, .bool withDR, .slice A full.length c, .int .u32 remote] 73)) W → W.cell? ⟨w.heap.size, 8, none⟩ = some (.slice A full.length c) := fun W h => (h.cell (p := ⟨w.heap.size, 8, none⟩) (Nat.lt_succ_self _)).trans ((World.cell?_alloc_at _ _ _ _ rfl).trans rfl)
  have b9 : ∀ W, Below (w.heap.size + 1) (w.alloc (.cells #[.int .u8 4, .int .u8 state, .int .u32 addr, .int .u32 netA, .int .u8 netB, .int .u16 pcost, .int .u32 dr, .bool withDR, .slice A full.length c, .int .u32 remote] 73)) W → W.cell? ⟨w.heap.size, 9, none⟩ = some (.int .u32 remote) := fun W h => (h.cell (p := ⟨w.heap.size, 9, none⟩) (Nat.lt_succ_self _)).trans ((World.cell?_alloc_at _ _ _ _ rfl).trans rfl)
  go_enter Try.func24, Try.ntmps24
  go_wp2_with fail
  go_region_held3 (fun W => Below (w.heap.size + 1) (w.alloc (.cells #[.int .u8 4, .int .u8 state, .int .u32 addr, .int .u32 netA, .int .u8 netB, .int .u16 pcost, .int .u32 dr, .bool withDR, .slice A full.length c, .int .u32 remote] 73)) W) (first | exact (Below.refl _ _).drew | assumption)
    ((go_at_call 33; refine Calls.mono (says_look _) ?_; rintro e w1 ⟨r1, rfl, hB1, hr1⟩; have hS1 : Below (w.heap.size + 1) (w.alloc (.cells #[.int .u8 4, .int .u8 state, .int .u32 addr, .int .u32 netA, .int .u8 netB, .int .u16 pcost, .int .u32 dr, .bool withDR, .slice A full.length c, .int .u32 remote] 73)) w1 := Below.trans (by first | assumption | exact (Below.refl _ _).drew) (hB1.mono (by simp)); have hlk := run_look8 (P := Try.prog) Try.underlying104 Try.underlying5 hr1 4 (i := 4) (v := .func (.func 51) #[] #[]) (by rfl)))
  clear hlk hB1 hr1
  by_cases h0 : state = 0
  · have hev : linksL ⟨4, state, addr, netA, netB, pcost, dr, withDR, .slice A full.length c, full, remote⟩ most = [] := if_pos (.inr (.inl h0))
    have hev := Lib.hid hev
    have d0 : (state == 0) = true := beq_iff_eq.2 h0
    replace h0 := Lib.hid h0
    go_wp2_with fail
    go_ret
    rw [hev.out]
    exact LinksPost.nil_ (hW.out _ hS1)
  have d0 : (state == 0) = false := beq_eq_false_iff_ne.2 h0
  by_cases h1 : state = 1
  · have hev : linksL ⟨4, state, addr, netA, netB, pcost, dr, withDR, .slice A full.length c, full, remote⟩ most = [] := if_pos (.inr (.inr ⟨h1, rfl⟩))
    have hev := Lib.hid hev
    have d1 : (state == 1) = true := beq_iff_eq.2 h1
    replace h0 := Lib.hid h0
    replace h1 := Lib.hid h1
    go_wp2_with fail
    go_ret
    rw [hev.out]
    exact LinksPost.nil_ (hW.out _ hS1)
  have d1 : (state == 1) = false := beq_eq_false_iff_ne.2 h1
  have hev : linksL ⟨4, state, addr, netA, netB, pcost, dr, withDR, .slice A full.length c, full, remote⟩ most = kindL ⟨4, state, addr, netA, netB, pcost, dr, withDR, .slice A full.length c, full, remote⟩ (if most then 65535 else pcost) := (if_neg (by simp [h0, h1])).trans (if_neg h1)
  have hev := Lib.hid hev
  replace h0 := Lib.hid h0
  replace h1 := Lib.hid h1
  cases most
  · go_wp2_with fail
    refine Calls.mono (HF.out _ _ (by assumption)) ?_
    rintro e w2 hl
    have hl' := LinksPost.from_ (hW.out _ hS1) hl
    obtain ⟨v2, rfl, _⟩ := hl
    go_wp2_with fail
    go_ret
    rw [hev.out]
    exact hl'
  · go_wp2_with fail
    refine Calls.mono (HF.out _ _ (by assumption)) ?_
    rintro e w2 hl
    have hl' := LinksPost.from_ (hW.out _ hS1) hl
    obtain ⟨v2, rfl, _⟩ := hl
    go_wp2_with fail
    go_ret
    rw [hev.out]
    exact hl'

set_option maxRecDepth 100000 in
set_option maxHeartbeats 1000000 in
theorem linksOther (p : OPort) (most : Bool) (w : World) (hp : PortAt w p) (hk : 4 < p.kind) : Calls Try.prog 24 #[portVal p, .bool most] w (LinksPost w (linksL p most)) := by
  have hp' := hp
  obtain ⟨kind, state, addr, netA, netB, pcost, dr, withDR, fv, full, remote⟩ := p
  obtain ⟨⟨_, A, c, hv, _⟩, hn, hb0, hb1⟩ := hp
  simp only at hv hk
  subst hv
  have hW : ∀ W : World, Below (w.heap.size + 1) (w.alloc (.cells #[.int .u8 kind, .int .u8 state, .int .u32 addr, .int .u32 netA, .int .u8 netB, .int .u16 pcost, .int .u32 dr, .bool withDR, .slice A full.length c, .int .u32 remote] 73)) W → Below w.heap.size w W := fun _ h => ((Below.refl _ _).alloc (Nat.le_refl _) _).trans (h.mono (by omega))
  replace hW := Lib.hid hW
  have b0 : ∀ W, Below (w.heap.size + 1) (w.alloc (.cells #[.int .u8 kind, .int .u8 state, .int .u32 addr, .int .u32 netA, .int .u8 netB, .int .u16 pcost, .int .u32 dr, .bool withDR, .slice A full.length c, .int .u32 remote] 73)) W → W.cell? ⟨w.heap.size, 0, none⟩ = some (.int .u8 kind) := fun W h => (h.cell (p := ⟨w.heap.size, 0, none⟩) (Nat.lt_succ_self _)).trans ((World.cell?_alloc_at _ _ _ _ rfl).trans rfl)
  have b1 : ∀ W, Below (w.heap.size + 1) (w.alloc (.cells #[.int .u8 kind, .int .u8 state, .int .u32 addr, .int .u32 netA, .int .u8 netB, .int .u16 pcost, .int .u32 dr, .bool withDR, .slice A full.length c, .int .u32 remote] 73)) W → W.cell? ⟨w.heap.size, 1, none⟩ = some (.int .u8 state) := fun W h => (h.cell (p := ⟨w.heap.size, 1, none⟩) (Nat.lt_succ_self _)).trans ((World.cell?_alloc_at _ _ _ _ rfl).trans rfl)
  have b2 : ∀ W, Below (w.heap.size + 1) (w.alloc (.cells #[.int .u8 kind, .int .u8 state, .int .u32 addr, .int .u32 netA, .int .u8 netB, .int .u16 pcost, .int .u32 dr, .bool withDR, .slice A full.length c, .int .u32 remote] 73)) W → W.cell? ⟨w.heap.size, 2, none⟩ = some (.int .u32 addr) := fun W h => (h.cell (p := ⟨w.heap.size, 2, none⟩) (Nat.lt_succ_self _)).trans ((World.cell?_alloc_at _ _ _ _ rfl).trans rfl)
  have b3 : ∀ W, Below (w.heap.size + 1) (w.alloc (.cells #[.int .u8 kind, .int .u8 state, .int .u32 addr, .int .u32 netA, .int .u8 netB, .int .u16 pcost, .int .u32 dr, .bool withDR, .slice A full.length c, .int .u32 remote] 73)) W → W.cell? ⟨w.heap.size, 3, none⟩ = some (.int .u32 netA) := fun W h => (h.cell (p := ⟨w.heap.size, 3, none⟩) (Nat.lt_succ_self _)).trans ((World.cell?_alloc_at _ _ _ _ rfl).trans rfl)
  have b4 : ∀ W, Below (w.heap.size + 1) (w.alloc (.cells #[.int .u8 kind, .int .u8 state, .int .u32 addr, .int .u32 netA, .int .u8 netB, .int .u16 pcost, .int .u32 dr, .bool withDR, .slice A full.length c, .int .u32 remote] 73)) W → W.cell? ⟨w.heap.size, 4, none⟩ = some (.int .u8 netB) := fun W h => (h.cell (p := ⟨w.heap.size, 4, none⟩) (Nat.lt_succ_self _)).trans ((World.cell?_alloc_at _ _ _ _ rfl).trans rfl)
  have b5 : ∀ W, Below (w.heap.size + 1) (w.alloc (.cells #[.int .u8 kind, .int .u8 state, .int .u32 addr, .int .u32 netA, .int .u8 netB, .int .u16 pcost, .int .u32 dr, .bool withDR, .slice A full.length c, .int .u32 remote] 73)) W → W.cell? ⟨w.heap.size, 5, none⟩ = some (.int .u16 pcost) := fun W h => (h.cell (p := ⟨w.heap.size, 5, none⟩) (Nat.lt_succ_self _)).trans ((World.cell?_alloc_at _ _ _ _ rfl).trans rfl)
  have b6 : ∀ W, Below (w.heap.size + 1) (w.alloc (.cells #[.int .u8 kind, .int .u8 state, .int .u32 addr, .int .u32 netA, .int .u8 netB, .int .u16 pcost, .int .u32 dr, .bool withDR, .slice A full.length c, .int .u32 remote] 73)) W → W.cell? ⟨w.heap.size, 6, none⟩ = some (.int .u32 dr) := fun W h => (h.cell (p := ⟨w.heap.size, 6, none⟩) (Nat.lt_succ_self _)).trans ((World.cell?_alloc_at _ _ _ _ rfl).trans rfl)
  have b7 : ∀ W, Below (w.heap.size + 1) (w.alloc (.cells #[.int .u8 kind, .int .u8 state, .int .u32 addr, .int .u32 netA, .int .u8 netB, .int .u16 pcost, .int .u32 dr, .bool withDR, .slice A full.length c, .int .u32 remote] 73)) W → W.cell? ⟨w.heap.size, 7, none⟩ = some (.bool withDR) := fun W h => (h.cell (p := ⟨w.heap.size, 7, none⟩) (Nat.lt_succ_self _)).trans ((World.cell?_alloc_at _ _ _ _ rfl).trans rfl)
  have b8 : ∀ W, Below (w.heap.size + 1) (w.alloc (.cells #[.int .u8 kind, .int .u8 state, .int .u32 addr, .int .u32 netA, .int .u8 netB, .int .u16 pcost, .int .u32 dr, .bool withDR, .slice A full.length c, .int .u32 remote] 73)) W → W.cell? ⟨w.heap.size, 8, none⟩ = some (.slice A full.length c) := fun W h => (h.cell (p := ⟨w.heap.size, 8, none⟩) (Nat.lt_succ_self _)).trans ((World.cell?_alloc_at _ _ _ _ rfl).trans rfl)
  have b9 : ∀ W, Below (w.heap.size + 1) (w.alloc (.cells #[.int .u8 kind, .int .u8 state, .int .u32 addr, .int .u32 netA, .int .u8 netB, .int .u16 pcost, .int .u32 dr, .bool withDR, .slice A full.length c, .int .u32 remote] 73)) W → W.cell? ⟨w.heap.size, 9, none⟩ = some (.int .u32 remote) := fun W h => (h.cell (p := ⟨w.heap.size, 9, none⟩) (Nat.lt_succ_self _)).trans ((World.cell?_alloc_at _ _ _ _ rfl).trans rfl)
  have hmiss := says_miss hk
  go_enter Try.func24, Try.ntmps24
  go_wp2_with fail
  go_region_held3 (fun W => Below (w.heap.size + 1) (w.alloc (.cells #[.int .u8 kind, .int .u8 state, .int .u32 addr, .int .u32 netA, .int .u8 netB, .int .u16 pcost, .int .u32 dr, .bool withDR, .slice A full.length c, .int .u32 remote] 73)) W) (first | exact (Below.refl _ _).drew | assumption)
    ((go_at_call 33; refine Calls.mono (says_look _) ?_; rintro e w1 ⟨r1, rfl, hB1, hr1⟩; have hS1 : Below (w.heap.size + 1) (w.alloc (.cells #[.int .u8 kind, .int .u8 state, .int .u32 addr, .int .u32 netA, .int .u8 netB, .int .u16 pcost, .int .u32 dr, .bool withDR, .slice A full.length c, .int .u32 remote] 73)) w1 := Below.trans (by first | assumption | exact (Below.refl _ _).drew) (hB1.mono (by simp)); have hlk := run_miss8 (P := Try.prog) Try.underlying104 Try.underlying5 hr1 kind (fun _ => rfl) hmiss))
  have hev : linksL ⟨kind, state, addr, netA, netB, pcost, dr, withDR, .slice A full.length c, full, remote⟩ most = [] := if_pos (.inl hk)
  go_wp2_with fail
  go_ret
  rw [hev]
  exact LinksPost.nil_ (hW.out _ hS1)

theorem links_any (p : OPort) (most : Bool) (w : World) (hp : PortAt w p) (hk : 0 ≤ p.kind) : Calls Try.prog 24 #[portVal p, .bool most] w (LinksPost w (linksL p most)) := by
  by_cases h4 : 4 < p.kind
  · exact linksOther p most w hp h4
  by_cases h0 : p.kind = 0
  · exact links0 p most w hp h0
  by_cases h1 : p.kind = 1
  · exact links1 p most w hp h1
  by_cases h2 : p.kind = 2
  · exact links2 p most w hp h2
  by_cases h3 : p.kind = 3
  · exact links3 p most w hp h3
  exact links4 p most w hp (by omega)
end Go.Proofs.Ytdilbcmnfpmijaa
