/- outer.Routes of layer 20's known state: one route. Conditions: the state, the ways and their hops lie in memory, the boundary router is reached. -/
import Derived.Test.YtiikagabdiphkaaGreatOutF
import Derived.Test.YtiikagabdiphkaaGreatOutG
namespace Go.Proofs.YtiikagabdiphkaaGreat
open Go.RowKit Go.Lo

/-- the route's numbers -/
def route20N (near : WayN) : WayN := ⟨335544320, 8, 0, 0, 3, near.area, near.cost + 3, 0, 9⟩
/-- the loop of Routes -/
def RoR (w : World) (near : WayN) (hops : List Hop) (k : Nat) (v : Value) (wr : World) : Prop :=
  ((k = 0 ∧ v = .slice none 0 0) ∨ (k = 1 ∧ ∃ x : WayV, x.n = route20N near ∧ wr.ownsRow w.heap.size 38 10 v 1 (wayL x) ∧ wr.ownsRow w.heap.size 47 3 (.slice x.A x.len x.cap) hops.length (hops.flatMap hopCells))) ∧ Below w.heap.size w wr

set_option maxRecDepth 100000 in
set_option maxHeartbeats 4000000 in
theorem routes20_any (l : List WayV) (lv nv bv : Value) (B g : Nat) (near : WayV) (hops : List Hop) (w : World) (hb : Sl w B 1 bv 16 (body20.map u8c)) (hl : Sl w B 10 lv l.length (l.flatMap wayL)) (hB : B ≤ w.heap.size) (hn : l.length ≤ 1000000)
    (hg : Blk w g 54 (stC20 bv)) (hpick : pickP 5 l = (near, true)) (hh : Sl w B 3 (.slice near.A near.len near.cap) hops.length (hops.flatMap hopCells)) (hhn : hops.length ≤ 1000000) (hc : 0 ≤ near.n.cost ∧ near.n.cost < 4294967290) :
    Calls Tryz.prog 46 #[.slice (some ⟨g, 0, none⟩) 1 1, .int .u32 1, .bool false, lv, nv] w
      fun e w' => ∃ g2 cap x, e = .returned (.slice (some ⟨g2, 0, none⟩) 1 cap) ∧ x.n = route20N near.n ∧ w'.ownsRow w.heap.size 38 10 (.slice (some ⟨g2, 0, none⟩) 1 cap) 1 (wayL x) ∧ Sl w' w'.heap.size 3 (.slice x.A x.len x.cap) hops.length (hops.flatMap hopCells) ∧ Below w.heap.size w w' := by
  have CRt := fun (W : World) (hW : Below w.heap.size w W) => route20_any l lv nv bv B near hops W (hb.below (hW.mono hB)) (hl.below (hW.mono hB)) (Nat.le_trans hB hW.size) hn hpick (hh.below (hW.mono hB)) hhn hc
  obtain ⟨-, bA, bc, rfl, -⟩ := id hb
  have hgl := hg.lt
  dsimp only [stC20, wayC] at CRt hg
  obtain ⟨na, hna⟩ : ∃ z, z = near.n.area := ⟨_, rfl⟩
  obtain ⟨nc, hnc⟩ : ∃ z, z = near.n.cost := ⟨_, rfl⟩
  rw [← hna, ← hnc] at CRt
  rw [← hnc] at hc
  have hN : route20N near.n = ⟨335544320, 8, 0, 0, 3, na, nc + 3, 0, 9⟩ := by rw [hna, hnc]; rfl
  clear hpick hh hl hb hna hnc
  replace CRt := Lib.hid CRt
  replace hN := Lib.hid hN
  go_enter Tryz.func46, Tryz.ntmps46
  go_wp2_with fail
  go_loopg [11, 18] 1 (fun m v i wr => ∃ (k : Nat) (ki : Int), m = 1 - k ∧ i = .int .i64 ki ∧ (k = 0 ∧ ki = 0 ∨ k = 1 ∧ ki = 1) ∧ RoR w near.n hops k v wr)
  case atStart => exact ⟨0, 0, rfl, rfl, .inl ⟨rfl, rfl⟩, .inl ⟨rfl, rfl⟩, Below.refl _ _⟩
  case round =>
    obtain ⟨k, ki, rfl, rfl, hk, hR, hBr⟩ := hrel
    obtain ⟨w1, rfl⟩ : ∃ x : World, x = wr := ⟨_, rfl⟩
    have hz := hBr.size
    rcases hk with ⟨rfl, rfl⟩ | ⟨rfl, rfl⟩
    · obtain rfl := (hR.resolve_right (fun h => absurd h.1 (by decide))).2
      clear hR
      have hg1 := hg.below hBr hgl
      have x0 := hg1.cell 0
      have x1 := hg1.cell 1
      have x2 := hg1.cell 2
      have x3 := hg1.cell 3
      have x4 := hg1.cell 4
      have x5 := hg1.cell 5
      have x6 := hg1.cell 6
      have x7 := hg1.cell 7
      have x8 := hg1.cell 8
      simp only [List.getElem?_toArray, List.getElem?_cons_zero, List.getElem?_cons_succ] at x0 x1 x2 x3 x4 x5 x6 x7 x8
      have KX := Blk.new w1 54 #[.int .u16 0, .int .u8 0, .int .u8 5, .int .u32 335544320, .int .u32 5, .int .i32 1, .int .u16 40211, .int .u16 36, .slice bA 16 bc]
      have hB2 : Below w.heap.size w (w1.alloc (.cells #[.int .u16 0, .int .u8 0, .int .u8 5, .int .u32 335544320, .int .u32 5, .int .i32 1, .int .u16 40211, .int .u16 36, .slice bA 16 bc] 54)) := hBr.alloc hz _
      have hz2 : (w1.alloc (.cells #[.int .u16 0, .int .u8 0, .int .u8 5, .int .u32 335544320, .int .u32 5, .int .i32 1, .int .u16 40211, .int .u16 36, .slice bA 16 bc] 54)).heap.size = w1.heap.size + 1 := by simp
      go_upto_region 5 with fail
      clear x0 x1 x2 x3 x4 x5 x6 x7 x8 hg1
      generalize w1.alloc (.cells #[.int .u16 0, .int .u8 0, .int .u8 5, .int .u32 335544320, .int .u32 5, .int .i32 1, .int .u16 40211, .int .u16 36, .slice bA 16 bc] 54) = w2 at KX hB2 hz2 ⊢
      have CR2 := Lib.hid (CRt.out w2 hB2)
      have hz3 := hB2.size
      replace hz2 := Lib.hid hz2
      go_upto_region 6 with (first
        | (refine wpList_load_row rfl 54 (.tmp 13) rfl w1.heap.size rfl 54 #[.int .u16 0, .int .u8 0, .int .u8 5, .int .u32 335544320, .int .u32 5, .int .i32 1, .int .u16 40211, .int .u16 36, .slice bA 16 bc] (0, 0) _ KX Tryz.underlying54 rfl (by kernel_rfl) ?_)
        | (go_at_call 89; refine Calls.mono CR2.out ?_; rintro e w3 ⟨hv, rfl, ho3, hB3⟩; obtain ⟨-, A9, c9, rfl, -⟩ := Sl.of_own ho3))
      have KW := Blk.new w3 38 #[.int .u32 335544320, .int .u8 8, .int .u32 0, .int .u8 0, .int .u8 3, .int .u32 na, .int .u32 (nc + 3), .int .u32 0, .int .u32 9, .slice A9 hops.length c9]
      have hB4 : Below w.heap.size w (w3.alloc (.cells #[.int .u32 335544320, .int .u8 8, .int .u32 0, .int .u8 0, .int .u8 3, .int .u32 na, .int .u32 (nc + 3), .int .u32 0, .int .u32 9, .slice A9 hops.length c9] 38)) := (hB2.trans (hB3.mono hz3)).alloc (Nat.le_trans hz3 hB3.size) _
      have ho4 := own_less (own_alloc ho3 (.cells #[.int .u32 335544320, .int .u8 8, .int .u32 0, .int .u8 0, .int .u8 3, .int .u32 na, .int .u32 (nc + 3), .int .u32 0, .int .u32 9, .slice A9 hops.length c9] 38)) hz3
      clear ho3 hB3 KX hB2
      generalize w3.alloc (.cells #[.int .u32 335544320, .int .u8 8, .int .u32 0, .int .u8 0, .int .u8 3, .int .u32 na, .int .u32 (nc + 3), .int .u32 0, .int .u32 9, .slice A9 hops.length c9] 38) = w4 at KW hB4 ho4 ⊢
      generalize w3.heap.size = gw at KW ⊢
      have hz4 := hB4.size
      go_wp2_with (first
        | (refine wpList_load_row rfl 38 (.tmp 14) rfl gw rfl 38 #[.int .u32 335544320, .int .u8 8, .int .u32 0, .int .u8 0, .int .u8 3, .int .u32 na, .int .u32 (nc + 3), .int .u32 0, .int .u32 9, .slice A9 hops.length c9] (0, 0) _ KW Tryz.underlying38 rfl (by kernel_rfl) ?_)
        | (at_builtin; refine wpList_append rfl (.tmp 32) (.tmp 34) 30 rfl w.heap.size wayT (.slice none 0 0) 0 [] rfl (World.ownsRow_nil _ _ _ _) _ _ 1 [.int .u32 335544320, .int .u8 8, .int .u32 0, .int .u8 0, .int .u8 3, .int .u32 na, .int .u32 (nc + 3), .int .u32 0, .int .u32 9, .slice A9 hops.length c9] rfl (Sl.lit w4 #[.int .u32 335544320, .int .u8 8, .int .u32 0, .int .u8 0, .int .u8 3, .int .u32 na, .int .u32 (nc + 3), .int .u32 0, .int .u32 9, .slice A9 hops.length c9] 38 (by simp [maxLen]) rfl) (by simp [Value.oneCell']) (by simp only [maxLen]; omega) (by omega) (by simp; omega) ?_; intro v7 w7 ho7 hg7 hob7; rw [Nat.zero_add, List.nil_append] at ho7))
      have hB7 : Below w.heap.size w w7 := (hB4.alloc hz4 (.cells #[.int .u32 335544320, .int .u8 8, .int .u32 0, .int .u8 0, .int .u8 3, .int .u32 na, .int .u32 (nc + 3), .int .u32 0, .int .u32 9, .slice A9 hops.length c9] 38)).trans (below_of_grown hg7 (by simp; omega) (fun g hg => by simp [Value.ownBlock] at hg))
      go_roundg 0
      case measure => omega
      case rel => exact ⟨1, 1, rfl, rfl, .inr ⟨rfl, rfl⟩, .inr ⟨rfl, ⟨⟨335544320, 8, 0, 0, 3, na, nc + 3, 0, 9⟩, A9, hops.length, c9⟩, by rw [hN.out], ho7, own_same (own_alloc ho4 (.cells #[.int .u32 335544320, .int .u8 8, .int .u32 0, .int .u8 0, .int .u8 3, .int .u32 na, .int .u32 (nc + 3), .int .u32 0, .int .u32 9, .slice A9 hops.length c9] 38)) fun g hg => hg7.block g ((own_alloc ho4 (.cells #[.int .u32 335544320, .int .u8 8, .int .u32 0, .int .u8 0, .int .u8 3, .int .u32 na, .int .u32 (nc + 3), .int .u32 0, .int .u32 9, .slice A9 hops.length c9] 38)).lt g hg).2 (by simp [Value.ownBlock])⟩, hB7⟩
    · obtain ⟨x, hx, ho, hoh⟩ := (hR.resolve_left (fun h => absurd h.1 (by decide))).2
      clear hR
      obtain ⟨-, Al, cl, rfl, -⟩ := Sl.of_own ho
      have CB := Lib.hid (best20_any [x] (.slice Al 1 cl) w1.heap.size w1 (by simpa using Sl.of_own ho) (Nat.le_refl _) (by simp) (by simp) (fun k h => by simp at h; subst h; simp only [List.getElem_cons_zero]; rw [hx]; exact ⟨rfl, rfl⟩) (fun k h h' hk => by simp at h; omega))
      have hs := Sl.of_own hoh
      replace hx := Lib.hid hx
      clear ho hoh hg
      go_wp2_with (go_at_call 84; refine Calls.mono CB.out ?_; rintro e w3 ⟨g3, cap, hlt, rfl, ho3, hB3⟩)
      go_ret
      exact ⟨g3, cap, x, rfl, hx.out, own_less ho3 hz, (hs.below hB3).more hB3.size, hBr.trans (hB3.mono hz)⟩
end Go.Proofs.YtiikagabdiphkaaGreat
