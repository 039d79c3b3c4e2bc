/- origin's shared and Links: what a port says. Conditions: the port's full neighbours lie in memory. -/
import Derived.Test.YtdilbcmnfpmijaaOriC
namespace Go.Proofs.Ytdilbcmnfpmijaa
open Go.RowKit Go.Lo

def sharedIs (p : OPort) : Bool := decide (4 ≤ p.state) && !(p.dr == 0) && (p.withDR || (p.dr == p.addr && decide (0 < p.full.length)))
def sharedL (p : OPort) (cost : Int) : List OLink := if sharedIs p then [(p.dr, p.addr, 2, cost)] else [stubL p]
def kindL (p : OPort) (cost : Int) : List OLink :=
  if p.kind = 2 then (p.addr, 4294967295, 3, 0) :: toL p 1 cost (fun _ => true) p.full else if p.kind = 3 then toL p 1 cost (fun _ => true) p.full ++ [stubL p] else if p.kind = 4 then toL p 4 cost (fun id => id == p.remote) p.full else sharedL p cost
def linksL (p : OPort) (most : Bool) : List OLink :=
  if 4 < p.kind ∨ p.state = 0 ∨ (p.state = 1 ∧ p.kind = 4) then [] else if p.state = 1 then [stubL p] else kindL p (if most then 65535 else p.cost)

theorem one_link {w W : World} (x : OLink) {b : Nat} (hb : W.heap.size = b) (hB : Below w.heap.size w W) :
    (W.alloc (.cells #[.int .u32 x.1, .int .u32 x.2.1, .int .u8 x.2.2.1, .int .u16 x.2.2.2] 42)).ownsRow w.heap.size 42 4 (.slice (some ⟨b, 0, none⟩) 1 1) [x].length ([x].flatMap linkCells) ∧
      Below w.heap.size w (W.alloc (.cells #[.int .u32 x.1, .int .u32 x.2.1, .int .u8 x.2.2.1, .int .u16 x.2.2.2] 42)) := by
  have hz := hB.size
  subst hb
  refine ⟨?_, hB.alloc hz _⟩
  have h := World.ownsRow_lit (base := w.heap.size) (e := 42) (size := 4) W #[.int .u32 x.1, .int .u32 x.2.1, .int .u8 x.2.2.1, .int .u16 x.2.2.2] 1 hz (by simp [maxLen]) rfl
  simpa [linkCells] using h

set_option maxRecDepth 100000 in
set_option maxHeartbeats 400000 in
theorem shared_any (p : OPort) (cost : Int) (w : World) (hp : PortAt w p) : Calls Try.prog 48 #[portVal p, .int .u16 cost] w (LinksPost w (sharedL p cost)) := by
  obtain ⟨kind, state, addr, netA, netB, pcost, dr, withDR, fv, full, remote⟩ := p
  obtain ⟨⟨_, A, c, hv, _⟩, hn, hb0, hb1⟩ := hp
  simp only at hv
  subst hv
  have HS : Hid (∀ W, Calls Try.prog 34 #[portVal ⟨kind, state, addr, netA, netB, pcost, dr, withDR, .slice A full.length c, full, remote⟩] W fun e w' => e = .returned (.agg #[.int .u32 netA, .int .u32 (maskI netB), .int .u8 3, .int .u16 pcost]) ∧ Below W.heap.size W w') := fun W =>
    stub_any ⟨kind, state, addr, netA, netB, pcost, dr, withDR, .slice A full.length c, full, remote⟩ ⟨hb0, hb1⟩ W
  have yes : sharedIs ⟨kind, state, addr, netA, netB, pcost, dr, withDR, .slice A full.length c, full, remote⟩ = true → sharedL ⟨kind, state, addr, netA, netB, pcost, dr, withDR, .slice A full.length c, full, remote⟩ cost = [(dr, addr, 2, cost)] := fun h => if_pos h
  have no : sharedIs ⟨kind, state, addr, netA, netB, pcost, dr, withDR, .slice A full.length c, full, remote⟩ = false → sharedL ⟨kind, state, addr, netA, netB, pcost, dr, withDR, .slice A full.length c, full, remote⟩ cost = [(netA, maskI netB, 3, pcost)] := fun h => if_neg (by rw [h]; exact Bool.false_ne_true)
  replace yes := Lib.hid yes
  replace no := Lib.hid no
  by_cases h1 : 4 ≤ state
  · have d1 : decide (4 ≤ state) = true := decide_eq_true h1
    by_cases h2 : dr = 0
    · have d2 : (dr == 0) = true := beq_iff_eq.2 h2
      have d2' : (dr != 0) = false := by simp [h2]
      replace h1 := Lib.hid h1
      replace h2 := Lib.hid h2
      have hev := Lib.hid (no.out (by simp [sharedIs, h1.out, h2.out]))
      go_enter Try.func48, Try.ntmps48
      go_wp2_with fail
      refine Calls.mono (HS.out _) ?_
      rintro e w2 ⟨rfl, hB2⟩
      go_wp2_with fail
      go_ret
      rw [hev.out]
      exact ⟨_, rfl, one_link (netA, maskI netB, 3, pcost) rfl (((Below.refl _ _).alloc (Nat.le_refl _) _).trans (hB2.mono (by simp)))⟩
    · have d2 : (dr == 0) = false := beq_eq_false_iff_ne.2 h2
      have d2' : (dr != 0) = true := bne_iff_ne.2 h2
      replace h2 := Lib.hid h2
      replace h1 := Lib.hid h1
      cases withDR
      · by_cases h3 : dr = addr
        · have d3 : (dr == addr) = true := beq_iff_eq.2 h3
          by_cases h4 : 0 < full.length
          · have d4 : decide ((0 : Int) < (full.length : Int)) = true := decide_eq_true (by omega)
            replace h3 := Lib.hid h3
            replace h4 := Lib.hid h4
            have hev := Lib.hid (yes.out (by simp [sharedIs, h1.out, h3.out, h4.out]; rw [← h3.out]; exact h2.out))
            go_enter Try.func48, Try.ntmps48
            go_wp2_with fail
            go_ret
            rw [hev.out]
            exact ⟨_, rfl, one_link (dr, addr, 2, cost) (by simp) ((Below.refl _ _).alloc (Nat.le_refl _) _)⟩
          · have d4 : decide ((0 : Int) < (full.length : Int)) = false := decide_eq_false (by omega)
            replace h3 := Lib.hid h3
            replace h4 := Lib.hid h4
            have hev := Lib.hid (no.out (by simp [sharedIs, h4.out]))
            go_enter Try.func48, Try.ntmps48
            go_wp2_with fail
            refine Calls.mono (HS.out _) ?_
            rintro e w2 ⟨rfl, hB2⟩
            go_wp2_with fail
            go_ret
            rw [hev.out]
            exact ⟨_, rfl, one_link (netA, maskI netB, 3, pcost) rfl (((Below.refl _ _).alloc (Nat.le_refl _) _).trans (hB2.mono (by simp)))⟩
        · have d3 : (dr == addr) = false := beq_eq_false_iff_ne.2 h3
          replace h3 := Lib.hid h3
          have hev := Lib.hid (no.out (by simp [sharedIs, h3.out]))
          go_enter Try.func48, Try.ntmps48
          go_wp2_with fail
          refine Calls.mono (HS.out _) ?_
          rintro e w2 ⟨rfl, hB2⟩
          go_wp2_with fail
          go_ret
          rw [hev.out]
          exact ⟨_, rfl, one_link (netA, maskI netB, 3, pcost) rfl (((Below.refl _ _).alloc (Nat.le_refl _) _).trans (hB2.mono (by simp)))⟩
      · skip
        have hev := Lib.hid (yes.out (by simp [sharedIs, h1.out, h2.out]))
        go_enter Try.func48, Try.ntmps48
        go_wp2_with fail
        go_ret
        rw [hev.out]
        exact ⟨_, rfl, one_link (dr, addr, 2, cost) (by simp) ((Below.refl _ _).alloc (Nat.le_refl _) _)⟩
  · have d1 : decide (4 ≤ state) = false := decide_eq_false h1
    replace h1 := Lib.hid h1
    have hev := Lib.hid (no.out (by simp [sharedIs, h1.out]))
    go_enter Try.func48, Try.ntmps48
    go_wp2_with fail
    refine Calls.mono (HS.out _) ?_
    rintro e w2 ⟨rfl, hB2⟩
    go_wp2_with fail
    go_ret
    rw [hev.out]
    exact ⟨_, rfl, one_link (netA, maskI netB, 3, pcost) rfl (((Below.refl _ _).alloc (Nat.le_refl _) _).trans (hB2.mono (by simp)))⟩
end Go.Proofs.Ytdilbcmnfpmijaa
