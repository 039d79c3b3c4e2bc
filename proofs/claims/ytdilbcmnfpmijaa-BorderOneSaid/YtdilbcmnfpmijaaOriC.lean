/- origin's Port: point, multi, virtual, shared, and Links. Conditions: the port's full neighbours lie in memory. -/
import Derived.Test.YtdilbcmnfpmijaaOriB
namespace Go.Proofs.Ytdilbcmnfpmijaa
open Go.RowKit Go.Lo

abbrev linkVal (l : OLink) : Value := .agg #[.int .u32 l.1, .int .u32 l.2.1, .int .u8 l.2.2.1, .int .u16 l.2.2.2]
def PortAt (w : World) (p : OPort) : Prop := Sl w w.heap.size 1 p.fv p.full.length (p.full.flatMap u32Cells) ∧ p.full.length ≤ 1000000 ∧ 0 ≤ p.netB ∧ p.netB ≤ 255
theorem PortAt.below {w w' : World} {p : OPort} (h : PortAt w p) (hb : Below w.heap.size w w') : PortAt w' p := ⟨(h.1.below hb).more hb.size, h.2⟩

theorem own_less {w : World} {base base' : Nat} {e : TypeId} {s n : Nat} {v : Value} {xs : List Value} (h : w.ownsRow base e s v n xs) (hb : base' ≤ base) : w.ownsRow base' e s v n xs :=
  ⟨h.1, h.2.imp id fun ⟨g, cap, cur, a, b, c⟩ => ⟨g, cap, cur, a, Nat.le_trans hb b, c⟩⟩

set_option maxRecDepth 100000 in
set_option maxHeartbeats 1000000 in
theorem virtual_any (p : OPort) (cost : Int) (w : World) (hp : PortAt w p) :
    Calls Try.prog 51 #[portVal p, .int .u16 cost] w (LinksPost w (toL p 4 cost (fun id => id == p.remote) p.full)) := by
  have hmf : ∀ (fn : Fn) (first cap : Array Value) (w : World), (Instr.makeFunc fn first cap).run Try.prog w = .ok (.func fn first cap) w := fun _ _ _ _ => rfl
  have hp' := hp
  obtain ⟨kind, state, addr, netA, netB, pcost, dr, withDR, fv, full, remote⟩ := p
  obtain ⟨⟨_, A, c, hv, _⟩, hn, hb0, hb1⟩ := hp
  simp only at hv
  subst hv
  go_enter Try.func51, Try.ntmps51
  go_wp2_with fail
  have hB1 : Below w.heap.size w (w.alloc (.cells #[.int .u8 kind, .int .u8 state, .int .u32 addr, .int .u32 netA, .int .u8 netB, .int .u16 pcost, .int .u32 dr, .bool withDR, .slice A full.length c, .int .u32 remote] 73)) := (Below.refl _ _).alloc (Nat.le_refl _) _
  have hq := hp'.below hB1
  refine Calls.mono (to_only ⟨kind, state, addr, netA, netB, pcost, dr, withDR, .slice A full.length c, full, remote⟩ 4 cost remote w.heap.size _ hq.1 hn (by simp) ((World.cell?_alloc_at _ _ _ _ rfl).trans rfl)) ?_
  rintro e w' ⟨v, rfl, ho, hB⟩
  go_wp2_with fail
  go_ret
  exact ⟨v, rfl, own_less ho (by simp), hB1.trans (hB.mono (by simp))⟩

set_option maxRecDepth 100000 in
set_option maxHeartbeats 2000000 in
theorem point_any (p : OPort) (cost : Int) (w : World) (hp : PortAt w p) :
    Calls Try.prog 50 #[portVal p, .int .u16 cost] w (LinksPost w (toL p 1 cost (fun _ => true) p.full ++ [stubL p])) := by
  have hp' := hp
  obtain ⟨kind, state, addr, netA, netB, pcost, dr, withDR, fv, full, remote⟩ := p
  obtain ⟨⟨_, A, c, hv, _⟩, hn, hb0, hb1⟩ := hp
  simp only at hv
  subst hv
  have HT : Hid (∀ W, Below (w.heap.size + 1) (w.alloc (.cells #[.int .u8 kind, .int .u8 state, .int .u32 addr, .int .u32 netA, .int .u8 netB, .int .u16 pcost, .int .u32 dr, .bool withDR, .slice A full.length c, .int .u32 remote] 73)) W → Calls Try.prog 66 #[portVal ⟨kind, state, addr, netA, netB, pcost, dr, withDR, .slice A full.length c, full, remote⟩, .int .u8 1, .int .u16 cost, .func (.func 67) #[] #[]] W (LinksPost W (toL ⟨kind, state, addr, netA, netB, pcost, dr, withDR, .slice A full.length c, full, remote⟩ 1 cost (fun _ => true) full))) := fun W h =>
    to_all ⟨kind, state, addr, netA, netB, pcost, dr, withDR, .slice A full.length c, full, remote⟩ 1 cost W (hp'.below (((Below.refl _ _).alloc (Nat.le_refl _) _).trans (h.mono (by omega)))).1 hn
  have HS : Hid (∀ W, Calls Try.prog 34 #[portVal ⟨kind, state, addr, netA, netB, pcost, dr, withDR, .slice A full.length c, full, remote⟩] W fun e w' => e = .returned (.agg #[.int .u32 netA, .int .u32 (maskI netB), .int .u8 3, .int .u16 pcost]) ∧ Below W.heap.size W w') := fun W =>
    stub_any ⟨kind, state, addr, netA, netB, pcost, dr, withDR, .slice A full.length c, full, remote⟩ ⟨hb0, hb1⟩ W
  have hll : (toL ⟨kind, state, addr, netA, netB, pcost, dr, withDR, .slice A full.length c, full, remote⟩ 1 cost (fun _ => true) full).length ≤ 1000000 := Nat.le_trans (by unfold toL; rw [List.length_map]; exact List.length_filter_le _ _) hn
  obtain ⟨l, hl⟩ : ∃ l, l = toL ⟨kind, state, addr, netA, netB, pcost, dr, withDR, .slice A full.length c, full, remote⟩ 1 cost (fun _ => true) full := ⟨_, rfl⟩
  rw [← hl] at HT hll
  show Calls _ _ _ _ (LinksPost w (toL ⟨kind, state, addr, netA, netB, pcost, dr, withDR, .slice A full.length c, full, remote⟩ 1 cost (fun _ => true) full ++ [stubL _]))
  rw [← hl]
  clear hl hp'
  have b0 : ∀ W, Below (w.heap.size + 1) (w.alloc (.cells #[.int .u8 kind, .int .u8 state, .int .u32 addr, .int .u32 netA, .int .u8 netB, .int .u16 pcost, .int .u32 dr, .bool withDR, .slice A full.length c, .int .u32 remote] 73)) W → W.cell? ⟨w.heap.size, 0, none⟩ = some (.int .u8 kind) := fun W h => (h.cell (p := ⟨w.heap.size, 0, none⟩) (Nat.lt_succ_self _)).trans ((World.cell?_alloc_at _ _ _ _ rfl).trans rfl)
  have b1 : ∀ W, Below (w.heap.size + 1) (w.alloc (.cells #[.int .u8 kind, .int .u8 state, .int .u32 addr, .int .u32 netA, .int .u8 netB, .int .u16 pcost, .int .u32 dr, .bool withDR, .slice A full.length c, .int .u32 remote] 73)) W → W.cell? ⟨w.heap.size, 1, none⟩ = some (.int .u8 state) := fun W h => (h.cell (p := ⟨w.heap.size, 1, none⟩) (Nat.lt_succ_self _)).trans ((World.cell?_alloc_at _ _ _ _ rfl).trans rfl)
  have b2 : ∀ W, Below (w.heap.size + 1) (w.alloc (.cells #[.int .u8 kind, .int .u8 state, .int .u32 addr, .int .u32 netA, .int .u8 netB, .int .u16 pcost, .int .u32 dr, .bool withDR, .slice A full.length c, .int .u32 remote] 73)) W → W.cell? ⟨w.heap.size, 2, none⟩ = some (.int .u32 addr) := fun W h => (h.cell (p := ⟨w.heap.size, 2, none⟩) (Nat.lt_succ_self _)).trans ((World.cell?_alloc_at _ _ _ _ rfl).trans rfl)
  have b3 : ∀ W, Below (w.heap.size + 1) (w.alloc (.cells #[.int .u8 kind, .int .u8 state, .int .u32 addr, .int .u32 netA, .int .u8 netB, .int .u16 pcost, .int .u32 dr, .bool withDR, .slice A full.length c, .int .u32 remote] 73)) W → W.cell? ⟨w.heap.size, 3, none⟩ = some (.int .u32 netA) := fun W h => (h.cell (p := ⟨w.heap.size, 3, none⟩) (Nat.lt_succ_self _)).trans ((World.cell?_alloc_at _ _ _ _ rfl).trans rfl)
  have b4 : ∀ W, Below (w.heap.size + 1) (w.alloc (.cells #[.int .u8 kind, .int .u8 state, .int .u32 addr, .int .u32 netA, .int .u8 netB, .int .u16 pcost, .int .u32 dr, .bool withDR, .slice A full.length c, .int .u32 remote] 73)) W → W.cell? ⟨w.heap.size, 4, none⟩ = some (.int .u8 netB) := fun W h => (h.cell (p := ⟨w.heap.size, 4, none⟩) (Nat.lt_succ_self _)).trans ((World.cell?_alloc_at _ _ _ _ rfl).trans rfl)
  have b5 : ∀ W, Below (w.heap.size + 1) (w.alloc (.cells #[.int .u8 kind, .int .u8 state, .int .u32 addr, .int .u32 netA, .int .u8 netB, .int .u16 pcost, .int .u32 dr, .bool withDR, .slice A full.length c, .int .u32 remote] 73)) W → W.cell? ⟨w.heap.size, 5, none⟩ = some (.int .u16 pcost) := fun W h => (h.cell (p := ⟨w.heap.size, 5, none⟩) (Nat.lt_succ_self _)).trans ((World.cell?_alloc_at _ _ _ _ rfl).trans rfl)
  have b6 : ∀ W, Below (w.heap.size + 1) (w.alloc (.cells #[.int .u8 kind, .int .u8 state, .int .u32 addr, .int .u32 netA, .int .u8 netB, .int .u16 pcost, .int .u32 dr, .bool withDR, .slice A full.length c, .int .u32 remote] 73)) W → W.cell? ⟨w.heap.size, 6, none⟩ = some (.int .u32 dr) := fun W h => (h.cell (p := ⟨w.heap.size, 6, none⟩) (Nat.lt_succ_self _)).trans ((World.cell?_alloc_at _ _ _ _ rfl).trans rfl)
  have b7 : ∀ W, Below (w.heap.size + 1) (w.alloc (.cells #[.int .u8 kind, .int .u8 state, .int .u32 addr, .int .u32 netA, .int .u8 netB, .int .u16 pcost, .int .u32 dr, .bool withDR, .slice A full.length c, .int .u32 remote] 73)) W → W.cell? ⟨w.heap.size, 7, none⟩ = some (.bool withDR) := fun W h => (h.cell (p := ⟨w.heap.size, 7, none⟩) (Nat.lt_succ_self _)).trans ((World.cell?_alloc_at _ _ _ _ rfl).trans rfl)
  have b8 : ∀ W, Below (w.heap.size + 1) (w.alloc (.cells #[.int .u8 kind, .int .u8 state, .int .u32 addr, .int .u32 netA, .int .u8 netB, .int .u16 pcost, .int .u32 dr, .bool withDR, .slice A full.length c, .int .u32 remote] 73)) W → W.cell? ⟨w.heap.size, 8, none⟩ = some (.slice A full.length c) := fun W h => (h.cell (p := ⟨w.heap.size, 8, none⟩) (Nat.lt_succ_self _)).trans ((World.cell?_alloc_at _ _ _ _ rfl).trans rfl)
  have b9 : ∀ W, Below (w.heap.size + 1) (w.alloc (.cells #[.int .u8 kind, .int .u8 state, .int .u32 addr, .int .u32 netA, .int .u8 netB, .int .u16 pcost, .int .u32 dr, .bool withDR, .slice A full.length c, .int .u32 remote] 73)) W → W.cell? ⟨w.heap.size, 9, none⟩ = some (.int .u32 remote) := fun W h => (h.cell (p := ⟨w.heap.size, 9, none⟩) (Nat.lt_succ_self _)).trans ((World.cell?_alloc_at _ _ _ _ rfl).trans rfl)
  go_enter Try.func50, Try.ntmps50
  go_wp2_with fail
  go_region_held3 (fun W => Below (w.heap.size + 1) (w.alloc (.cells #[.int .u8 kind, .int .u8 state, .int .u32 addr, .int .u32 netA, .int .u8 netB, .int .u16 pcost, .int .u32 dr, .bool withDR, .slice A full.length c, .int .u32 remote] 73)) W) (first | exact (Below.refl _ _).drew | assumption | exact Below.alloc hS2 hz2 _)
    (first
      | (go_at_call 66; refine Calls.mono (HT.out _ (by first | assumption | exact (Below.refl _ _).drew)) ?_; rintro e w1 ⟨v1, rfl, ho1, hB1⟩; have hS1 : Below (w.heap.size + 1) (w.alloc (.cells #[.int .u8 kind, .int .u8 state, .int .u32 addr, .int .u32 netA, .int .u8 netB, .int .u16 pcost, .int .u32 dr, .bool withDR, .slice A full.length c, .int .u32 remote] 73)) w1 := Below.trans (by first | assumption | exact (Below.refl _ _).drew) (hB1.mono (by simp)); have hz1 : w.heap.size + 1 ≤ w1.heap.size := (by have h := hS1.size; simpa using h))
      | (go_at_call 34; refine Calls.mono (HS.out _) ?_; rintro e w2 ⟨rfl, hB2⟩; have hS2 : Below (w.heap.size + 1) (w.alloc (.cells #[.int .u8 kind, .int .u8 state, .int .u32 addr, .int .u32 netA, .int .u8 netB, .int .u16 pcost, .int .u32 dr, .bool withDR, .slice A full.length c, .int .u32 remote] 73)) w2 := Below.trans hS1 (hB2.mono hz1); have hz2 : w.heap.size + 1 ≤ w2.heap.size := (by have h := hS2.size; simpa using h); have ho2 := own_below ho1 hB2)
      | (refine step_append rfl (.tmp 7) (.tmp 10) 28 rfl w.heap.size linkT v1 _ _ rfl ((own_less ho2 (by simp)).alloc _) _ _ 1 (linkCells (netA, maskI netB, 3, pcost)) rfl (Sl.lit w2 #[.int .u32 netA, .int .u32 (maskI netB), .int .u8 3, .int .u16 pcost] 42 (by simp [maxLen]) rfl) (by simp [linkCells, Value.oneCell']) (by simp only [maxLen]; omega) (by omega) (by simp; omega) ?_; intro v3 w3 ho3 hg3 hob3; have hS3 : Below (w.heap.size + 1) (w.alloc (.cells #[.int .u8 kind, .int .u8 state, .int .u32 addr, .int .u32 netA, .int .u8 netB, .int .u16 pcost, .int .u32 dr, .bool withDR, .slice A full.length c, .int .u32 remote] 73)) w3 := (hS2.alloc hz2 _).trans (below_of_grown hg3 (by simp; omega) (fun g hg => by have := (ho1.lt g hg).1; simp at this; omega))))
  go_wp2
  go_ret
  exact ⟨v3, rfl, by simpa [stubL] using ho3, ((Below.refl _ _).alloc (Nat.le_refl _) _).trans (hS3.mono (by omega))⟩

theorem own_lit {n s b base : Nat} (w : World) (cs : Array Value) (e : TypeId) (hb : w.heap.size = b) (hB : base ≤ b) (hm : n ≤ maxLen) (hs : cs.size = n * s) : (w.alloc (.cells cs e)).ownsRow base e s (.slice (some ⟨b, 0, none⟩) n n) n cs.toList := by
  subst hb
  exact World.ownsRow_lit w cs n hB hm hs
theorem links_oneCell {l : List OLink} : ∀ u ∈ l.flatMap linkCells, u.oneCell' = true := by
  intro u hu
  obtain ⟨h, _, hh⟩ := List.mem_flatMap.1 hu
  simp only [linkCells, List.mem_cons, List.not_mem_nil, or_false] at hh
  rcases hh with rfl | rfl | rfl | rfl <;> rfl

set_option maxRecDepth 100000 in
set_option maxHeartbeats 2000000 in
theorem multi_any (p : OPort) (cost : Int) (w : World) (hp : PortAt w p) :
    Calls Try.prog 49 #[portVal p, .int .u16 cost] w (LinksPost w ((p.addr, 4294967295, 3, 0) :: toL p 1 cost (fun _ => true) p.full)) := by
  have hp' := hp
  obtain ⟨kind, state, addr, netA, netB, pcost, dr, withDR, fv, full, remote⟩ := p
  obtain ⟨⟨_, A, c, hv, _⟩, hn, hb0, hb1⟩ := hp
  simp only at hv
  subst hv
  have HT : Hid (∀ W, Below (w.heap.size + 1) (w.alloc (.cells #[.int .u8 kind, .int .u8 state, .int .u32 addr, .int .u32 netA, .int .u8 netB, .int .u16 pcost, .int .u32 dr, .bool withDR, .slice A full.length c, .int .u32 remote] 73)) W → Calls Try.prog 66 #[portVal ⟨kind, state, addr, netA, netB, pcost, dr, withDR, .slice A full.length c, full, remote⟩, .int .u8 1, .int .u16 cost, .func (.func 67) #[] #[]] W (LinksPost W (toL ⟨kind, state, addr, netA, netB, pcost, dr, withDR, .slice A full.length c, full, remote⟩ 1 cost (fun _ => true) full))) := fun W h =>
    to_all ⟨kind, state, addr, netA, netB, pcost, dr, withDR, .slice A full.length c, full, remote⟩ 1 cost W (hp'.below (((Below.refl _ _).alloc (Nat.le_refl _) _).trans (h.mono (by omega)))).1 hn
  have hll : (toL ⟨kind, state, addr, netA, netB, pcost, dr, withDR, .slice A full.length c, full, remote⟩ 1 cost (fun _ => true) full).length ≤ 1000000 := Nat.le_trans (by unfold toL; rw [List.length_map]; exact List.length_filter_le _ _) hn
  obtain ⟨l, hl⟩ : ∃ l, l = toL ⟨kind, state, addr, netA, netB, pcost, dr, withDR, .slice A full.length c, full, remote⟩ 1 cost (fun _ => true) full := ⟨_, rfl⟩
  rw [← hl] at HT hll
  show Calls _ _ _ _ (LinksPost w ((addr, 4294967295, 3, 0) :: toL ⟨kind, state, addr, netA, netB, pcost, dr, withDR, .slice A full.length c, full, remote⟩ 1 cost (fun _ => true) full))
  rw [← hl]
  clear hl hp'
  have b0 : ∀ W, Below (w.heap.size + 1) (w.alloc (.cells #[.int .u8 kind, .int .u8 state, .int .u32 addr, .int .u32 netA, .int .u8 netB, .int .u16 pcost, .int .u32 dr, .bool withDR, .slice A full.length c, .int .u32 remote] 73)) W → W.cell? ⟨w.heap.size, 0, none⟩ = some (.int .u8 kind) := fun W h => (h.cell (p := ⟨w.heap.size, 0, none⟩) (Nat.lt_succ_self _)).trans ((World.cell?_alloc_at _ _ _ _ rfl).trans rfl)
  have b1 : ∀ W, Below (w.heap.size + 1) (w.alloc (.cells #[.int .u8 kind, .int .u8 state, .int .u32 addr, .int .u32 netA, .int .u8 netB, .int .u16 pcost, .int .u32 dr, .bool withDR, .slice A full.length c, .int .u32 remote] 73)) W → W.cell? ⟨w.heap.size, 1, none⟩ = some (.int .u8 state) := fun W h => (h.cell (p := ⟨w.heap.size, 1, none⟩) (Nat.lt_succ_self _)).trans ((World.cell?_alloc_at _ _ _ _ rfl).trans rfl)
  have b2 : ∀ W, Below (w.heap.size + 1) (w.alloc (.cells #[.int .u8 kind, .int .u8 state, .int .u32 addr, .int .u32 netA, .int .u8 netB, .int .u16 pcost, .int .u32 dr, .bool withDR, .slice A full.length c, .int .u32 remote] 73)) W → W.cell? ⟨w.heap.size, 2, none⟩ = some (.int .u32 addr) := fun W h => (h.cell (p := ⟨w.heap.size, 2, none⟩) (Nat.lt_succ_self _)).trans ((World.cell?_alloc_at _ _ _ _ rfl).trans rfl)
  have b3 : ∀ W, Below (w.heap.size + 1) (w.alloc (.cells #[.int .u8 kind, .int .u8 state, .int .u32 addr, .int .u32 netA, .int .u8 netB, .int .u16 pcost, .int .u32 dr, .bool withDR, .slice A full.length c, .int .u32 remote] 73)) W → W.cell? ⟨w.heap.size, 3, none⟩ = some (.int .u32 netA) := fun W h => (h.cell (p := ⟨w.heap.size, 3, none⟩) (Nat.lt_succ_self _)).trans ((World.cell?_alloc_at _ _ _ _ rfl).trans rfl)
  have b4 : ∀ W, Below (w.heap.size + 1) (w.alloc (.cells #[.int .u8 kind, .int .u8 state, .int .u32 addr, .int .u32 netA, .int .u8 netB, .int .u16 pcost, .int .u32 dr, .bool withDR, .slice A full.length c, .int .u32 remote] 73)) W → W.cell? ⟨w.heap.size, 4, none⟩ = some (.int .u8 netB) := fun W h => (h.cell (p := ⟨w.heap.size, 4, none⟩) (Nat.lt_succ_self _)).trans ((World.cell?_alloc_at _ _ _ _ rfl).trans rfl)
  have b5 : ∀ W, Below (w.heap.size + 1) (w.alloc (.cells #[.int .u8 kind, .int .u8 state, .int .u32 addr, .int .u32 netA, .int .u8 netB, .int .u16 pcost, .int .u32 dr, .bool withDR, .slice A full.length c, .int .u32 remote] 73)) W → W.cell? ⟨w.heap.size, 5, none⟩ = some (.int .u16 pcost) := fun W h => (h.cell (p := ⟨w.heap.size, 5, none⟩) (Nat.lt_succ_self _)).trans ((World.cell?_alloc_at _ _ _ _ rfl).trans rfl)
  have b6 : ∀ W, Below (w.heap.size + 1) (w.alloc (.cells #[.int .u8 kind, .int .u8 state, .int .u32 addr, .int .u32 netA, .int .u8 netB, .int .u16 pcost, .int .u32 dr, .bool withDR, .slice A full.length c, .int .u32 remote] 73)) W → W.cell? ⟨w.heap.size, 6, none⟩ = some (.int .u32 dr) := fun W h => (h.cell (p := ⟨w.heap.size, 6, none⟩) (Nat.lt_succ_self _)).trans ((World.cell?_alloc_at _ _ _ _ rfl).trans rfl)
  have b7 : ∀ W, Below (w.heap.size + 1) (w.alloc (.cells #[.int .u8 kind, .int .u8 state, .int .u32 addr, .int .u32 netA, .int .u8 netB, .int .u16 pcost, .int .u32 dr, .bool withDR, .slice A full.length c, .int .u32 remote] 73)) W → W.cell? ⟨w.heap.size, 7, none⟩ = some (.bool withDR) := fun W h => (h.cell (p := ⟨w.heap.size, 7, none⟩) (Nat.lt_succ_self _)).trans ((World.cell?_alloc_at _ _ _ _ rfl).trans rfl)
  have b8 : ∀ W, Below (w.heap.size + 1) (w.alloc (.cells #[.int .u8 kind, .int .u8 state, .int .u32 addr, .int .u32 netA, .int .u8 netB, .int .u16 pcost, .int .u32 dr, .bool withDR, .slice A full.length c, .int .u32 remote] 73)) W → W.cell? ⟨w.heap.size, 8, none⟩ = some (.slice A full.length c) := fun W h => (h.cell (p := ⟨w.heap.size, 8, none⟩) (Nat.lt_succ_self _)).trans ((World.cell?_alloc_at _ _ _ _ rfl).trans rfl)
  have b9 : ∀ W, Below (w.heap.size + 1) (w.alloc (.cells #[.int .u8 kind, .int .u8 state, .int .u32 addr, .int .u32 netA, .int .u8 netB, .int .u16 pcost, .int .u32 dr, .bool withDR, .slice A full.length c, .int .u32 remote] 73)) W → W.cell? ⟨w.heap.size, 9, none⟩ = some (.int .u32 remote) := fun W h => (h.cell (p := ⟨w.heap.size, 9, none⟩) (Nat.lt_succ_self _)).trans ((World.cell?_alloc_at _ _ _ _ rfl).trans rfl)
  go_enter Try.func49, Try.ntmps49
  go_wp2_with fail
  go_region_held3 (fun W => Below (w.heap.size + 1) (w.alloc (.cells #[.int .u8 kind, .int .u8 state, .int .u32 addr, .int .u32 netA, .int .u8 netB, .int .u16 pcost, .int .u32 dr, .bool withDR, .slice A full.length c, .int .u32 remote] 73)) W) (first | exact (Below.refl _ _).drew | assumption | exact (Below.refl _ _).drew.alloc (by simp) _ | exact Below.alloc hS1 hz1 _)
    (first
      | (go_at_call 66; refine Calls.mono (HT.out _ (by first | assumption | exact (Below.refl _ _).drew | exact ((Below.refl _ _).alloc (by simp) _).drew | exact (Below.refl _ _).drew.alloc (by simp) _)) ?_; rintro e w1 ⟨v1, rfl, ho1, hB1⟩; have hS1 : Below (w.heap.size + 1) (w.alloc (.cells #[.int .u8 kind, .int .u8 state, .int .u32 addr, .int .u32 netA, .int .u8 netB, .int .u16 pcost, .int .u32 dr, .bool withDR, .slice A full.length c, .int .u32 remote] 73)) w1 := Below.trans (by first | assumption | exact (Below.refl _ _).drew | exact ((Below.refl _ _).alloc (by simp) _).drew | exact (Below.refl _ _).drew.alloc (by simp) _) (hB1.mono (by simp)); have hz1 : w.heap.size + 1 ≤ w1.heap.size := (by have h := hS1.size; simpa using h); first | (have hL1 : w1.ownsRow w.heap.size 42 4 (.slice (some ⟨w.heap.size + 1, 0, none⟩) 1 1) 1 (linkCells (addr, 4294967295, 3, 0)) := (own_below (own_lit (b := w.heap.size + 1) (base := w.heap.size) (w.alloc (.cells #[.int .u8 kind, .int .u8 state, .int .u32 addr, .int .u32 netA, .int .u8 netB, .int .u16 pcost, .int .u32 dr, .bool withDR, .slice A full.length c, .int .u32 remote] 73)) #[.int .u32 addr, .int .u32 4294967295, .int .u8 3, .int .u16 0] 42 (by simp) (by omega) (by simp [maxLen]) rfl).drew hB1)) | skip)
      | (refine step_append rfl (.tmp 8) (.tmp 11) 28 rfl w.heap.size linkT (.slice (some ⟨w.heap.size + 1, 0, none⟩) 1 1) 1 (linkCells (addr, 4294967295, 3, 0)) rfl hL1 w1.heap.size v1 l.length (l.flatMap linkCells) rfl (Sl.of_own ho1) links_oneCell (by simp only [maxLen]; omega) (by omega) (by omega) ?_; intro v3 w3 ho3 hg3 hob3; have hS3 : Below (w.heap.size + 1) (w.alloc (.cells #[.int .u8 kind, .int .u8 state, .int .u32 addr, .int .u32 netA, .int .u8 netB, .int .u16 pcost, .int .u32 dr, .bool withDR, .slice A full.length c, .int .u32 remote] 73)) w3 := hS1.trans (below_of_grown hg3 hz1 (fun g hg => by simp [Value.ownBlock] at hg; omega)))
      | (refine step_append rfl (.tmp 8) (.tmp 11) 28 rfl w.heap.size linkT (.slice (some ⟨w1.heap.size, 0, none⟩) 1 1) 1 (linkCells (addr, 4294967295, 3, 0)) rfl (World.ownsRow_lit (base := w.heap.size) (e := 42) (size := 4) w1 #[.int .u32 addr, .int .u32 4294967295, .int .u8 3, .int .u16 0] 1 (by omega) (by simp [maxLen]) rfl) w1.heap.size v1 l.length (l.flatMap linkCells) rfl ((Sl.of_own ho1).alloc (Nat.le_refl _) _) links_oneCell (by simp only [maxLen]; omega) (by omega) (by simp; omega) ?_; intro v3 w3 ho3 hg3 hob3; have hS3 : Below (w.heap.size + 1) (w.alloc (.cells #[.int .u8 kind, .int .u8 state, .int .u32 addr, .int .u32 netA, .int .u8 netB, .int .u16 pcost, .int .u32 dr, .bool withDR, .slice A full.length c, .int .u32 remote] 73)) w3 := (hS1.alloc hz1 _).trans (below_of_grown hg3 (by simp; omega) (fun g hg => by simp [Value.ownBlock] at hg; omega))))
  all_goals go_wp2
  all_goals go_ret
  all_goals exact ⟨v3, rfl, by simpa [Nat.add_comm] using ho3, ((Below.refl _ _).alloc (Nat.le_refl _) _).trans (hS3.mono (by omega))⟩
end Go.Proofs.Ytdilbcmnfpmijaa
