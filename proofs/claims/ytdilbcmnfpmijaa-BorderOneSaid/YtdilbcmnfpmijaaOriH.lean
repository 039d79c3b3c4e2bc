/- lodestarlaw22's given, and what OriginDown asks of origin. Conditions: the port's full neighbours lie in memory. -/
import Derived.Test.YtdilbcmnfpmijaaOriG
namespace Go.Proofs.Ytdilbcmnfpmijaa
open Go.RowKit Go.Lo

theorem u32s_oneCell {l : List Int} : ∀ u ∈ l.flatMap u32Cells, u.oneCell' = true := by
  intro u hu
  obtain ⟨h, _, hh⟩ := List.mem_flatMap.1 hu
  simp only [u32Cells, List.mem_cons, List.not_mem_nil, or_false] at hh
  subst hh; rfl

set_option maxRecDepth 100000 in
theorem copywords_any (l : List Int) (lv : Value) (w : World) (hl : Sl w w.heap.size 1 lv l.length (l.flatMap u32Cells)) (hn : l.length ≤ 1000000) :
    Calls Try.prog 26 #[lv] w fun e w' => ∃ v, e = .returned v ∧ w'.ownsRow w.heap.size 22 1 v l.length (l.flatMap u32Cells) ∧ Below w.heap.size w w' := by
  have hl0 := hl
  obtain ⟨_, A, c, rfl, _⟩ := hl
  go_enter Try.func26, Try.ntmps26
  go_wp2_with (at_builtin; refine wpList_append rfl (.tmp 4) (.tmp 5) 29 rfl w.heap.size u32T (.slice none 0 0) 0 [] rfl (World.ownsRow_nil _ _ _ _) _ _ _ _ rfl hl0 u32s_oneCell (by simp only [maxLen]; omega) (by omega) (Nat.le_refl _) ?_; intro v1 w1 ho1 hg1 hob1; simp only [Nat.zero_add, List.nil_append] at ho1)
  go_wp2
  go_ret
  exact ⟨v1, rfl, ho1, below_of_grown hg1 (Nat.le_refl _) (by simp [Value.ownBlock])⟩

theorem own_far {w : World} {base : Nat} {e : TypeId} {s n : Nat} {v : Value} {xs : List Value} (h : w.ownsRow base e s v n xs) {p : Addr} (hp : p.block < base) (u : Value) : (w.setCell p u).ownsRow base e s v n xs := by
  refine ⟨h.1, ?_⟩
  rcases h.2 with h' | ⟨g, cap, cur, rfl, h1, h2, h3⟩
  · exact .inl h'
  · exact .inr ⟨g, cap, cur, rfl, h1, (Below.heap_setCell w p u g (by omega)).trans h2, h3⟩

theorem Blk.ok {w : World} {g : Nat} {t : TypeId} {cs : Array Value} (h : Blk w g t cs) (i : Nat) (hi : i < cs.size) : (∃ u, w.cell? ⟨g, i, none⟩ = some u) ∧ w.frozen? ⟨g, i, none⟩ = false :=
  ⟨⟨cs[i], (h.cell i).trans (Array.getElem?_eq_getElem hi)⟩, h.free i⟩

set_option maxRecDepth 100000 in
set_option maxHeartbeats 2000000 in
theorem given22_any (p : OPort) (w : World) (hp : PortAt w p) : Calls Try.prog 23 #[portVal p] w fun e w' =>
    ∃ A c, e = .returned (portVal { p with fv := .slice A p.full.length c }) ∧ w'.ownsRow w.heap.size 22 1 (.slice A p.full.length c) p.full.length (p.full.flatMap u32Cells) ∧ Below w.heap.size w w' := by
  have hp' := hp
  obtain ⟨kind, state, addr, netA, netB, pcost, dr, withDR, fv, full, remote⟩ := p
  obtain ⟨⟨_, A, c, hv, _⟩, hn, hb0, hb1⟩ := hp
  simp only at hv
  subst hv
  have hP0 : Blk ((w.alloc (.cells #[.int .u8 kind, .int .u8 state, .int .u32 addr, .int .u32 netA, .int .u8 netB, .int .u16 pcost, .int .u32 dr, .bool withDR, .slice A full.length c, .int .u32 remote] 72)).alloc (.cells #[.int .u8 0, .int .u8 0, .int .u32 0, .int .u32 0, .int .u8 0, .int .u16 0, .int .u32 0, .bool false, .slice none 0 0, .int .u32 0] 73)) w.heap.size 72 #[.int .u8 kind, .int .u8 state, .int .u32 addr, .int .u32 netA, .int .u8 netB, .int .u16 pcost, .int .u32 dr, .bool withDR, .slice A full.length c, .int .u32 remote] := (Blk.new _ _ _).alloc _
  have hK0 : Blk ((w.alloc (.cells #[.int .u8 kind, .int .u8 state, .int .u32 addr, .int .u32 netA, .int .u8 netB, .int .u16 pcost, .int .u32 dr, .bool withDR, .slice A full.length c, .int .u32 remote] 72)).alloc (.cells #[.int .u8 0, .int .u8 0, .int .u32 0, .int .u32 0, .int .u8 0, .int .u16 0, .int .u32 0, .bool false, .slice none 0 0, .int .u32 0] 73)) (w.heap.size + 1) 73 #[.int .u8 0, .int .u8 0, .int .u32 0, .int .u32 0, .int .u8 0, .int .u16 0, .int .u32 0, .bool false, .slice none 0 0, .int .u32 0] := heap_alloc2_new w _ _
  have hB0 : Below w.heap.size w ((w.alloc (.cells #[.int .u8 kind, .int .u8 state, .int .u32 addr, .int .u32 netA, .int .u8 netB, .int .u16 pcost, .int .u32 dr, .bool withDR, .slice A full.length c, .int .u32 remote] 72)).alloc (.cells #[.int .u8 0, .int .u8 0, .int .u32 0, .int .u32 0, .int .u8 0, .int .u16 0, .int .u32 0, .bool false, .slice none 0 0, .int .u32 0] 73)) := ((Below.refl _ _).alloc (Nat.le_refl _) _).alloc (by simp) _
  have hZ0 : (((w.alloc (.cells #[.int .u8 kind, .int .u8 state, .int .u32 addr, .int .u32 netA, .int .u8 netB, .int .u16 pcost, .int .u32 dr, .bool withDR, .slice A full.length c, .int .u32 remote] 72)).alloc (.cells #[.int .u8 0, .int .u8 0, .int .u32 0, .int .u32 0, .int .u8 0, .int .u16 0, .int .u32 0, .bool false, .slice none 0 0, .int .u32 0] 73)) : World).heap.size = w.heap.size + 2 := by simp
  go_enter Try.func23, Try.ntmps23
  go_wp2_with fail
  generalize ((w.alloc (.cells #[.int .u8 kind, .int .u8 state, .int .u32 addr, .int .u32 netA, .int .u8 netB, .int .u16 pcost, .int .u32 dr, .bool withDR, .slice A full.length c, .int .u32 remote] 72)).alloc (.cells #[.int .u8 0, .int .u8 0, .int .u32 0, .int .u32 0, .int .u8 0, .int .u16 0, .int .u32 0, .bool false, .slice none 0 0, .int .u32 0] 73)) = W0 at hP0 hK0 hB0 hZ0 ⊢
  have HC : Hid (∀ W, Below (w.heap.size + 1) W0 W → Calls Try.prog 26 #[.slice A full.length c] W fun e w' => ∃ v, e = .returned v ∧ w'.ownsRow W.heap.size 22 1 v full.length (full.flatMap u32Cells) ∧ Below W.heap.size W w') := fun W h =>
    copywords_any full _ W (hp'.below (hB0.trans (h.mono (by omega)))).1 hn
  have b0 : ∀ W, Below (w.heap.size + 1) W0 W → W.cell? ⟨w.heap.size, 0, none⟩ = some (.int .u8 kind) := fun W h => (h.cell (p := ⟨w.heap.size, 0, none⟩) (by show w.heap.size < w.heap.size + 1; omega)).trans (hP0.cell 0)
  have b1 : ∀ W, Below (w.heap.size + 1) W0 W → W.cell? ⟨w.heap.size, 1, none⟩ = some (.int .u8 state) := fun W h => (h.cell (p := ⟨w.heap.size, 1, none⟩) (by show w.heap.size < w.heap.size + 1; omega)).trans (hP0.cell 1)
  have b2 : ∀ W, Below (w.heap.size + 1) W0 W → W.cell? ⟨w.heap.size, 2, none⟩ = some (.int .u32 addr) := fun W h => (h.cell (p := ⟨w.heap.size, 2, none⟩) (by show w.heap.size < w.heap.size + 1; omega)).trans (hP0.cell 2)
  have b3 : ∀ W, Below (w.heap.size + 1) W0 W → W.cell? ⟨w.heap.size, 3, none⟩ = some (.int .u32 netA) := fun W h => (h.cell (p := ⟨w.heap.size, 3, none⟩) (by show w.heap.size < w.heap.size + 1; omega)).trans (hP0.cell 3)
  have b4 : ∀ W, Below (w.heap.size + 1) W0 W → W.cell? ⟨w.heap.size, 4, none⟩ = some (.int .u8 netB) := fun W h => (h.cell (p := ⟨w.heap.size, 4, none⟩) (by show w.heap.size < w.heap.size + 1; omega)).trans (hP0.cell 4)
  have b5 : ∀ W, Below (w.heap.size + 1) W0 W → W.cell? ⟨w.heap.size, 5, none⟩ = some (.int .u16 pcost) := fun W h => (h.cell (p := ⟨w.heap.size, 5, none⟩) (by show w.heap.size < w.heap.size + 1; omega)).trans (hP0.cell 5)
  have b6 : ∀ W, Below (w.heap.size + 1) W0 W → W.cell? ⟨w.heap.size, 6, none⟩ = some (.int .u32 dr) := fun W h => (h.cell (p := ⟨w.heap.size, 6, none⟩) (by show w.heap.size < w.heap.size + 1; omega)).trans (hP0.cell 6)
  have b7 : ∀ W, Below (w.heap.size + 1) W0 W → W.cell? ⟨w.heap.size, 7, none⟩ = some (.bool withDR) := fun W h => (h.cell (p := ⟨w.heap.size, 7, none⟩) (by show w.heap.size < w.heap.size + 1; omega)).trans (hP0.cell 7)
  have b8 : ∀ W, Below (w.heap.size + 1) W0 W → W.cell? ⟨w.heap.size, 8, none⟩ = some (.slice A full.length c) := fun W h => (h.cell (p := ⟨w.heap.size, 8, none⟩) (by show w.heap.size < w.heap.size + 1; omega)).trans (hP0.cell 8)
  have b9 : ∀ W, Below (w.heap.size + 1) W0 W → W.cell? ⟨w.heap.size, 9, none⟩ = some (.int .u32 remote) := fun W h => (h.cell (p := ⟨w.heap.size, 9, none⟩) (by show w.heap.size < w.heap.size + 1; omega)).trans (hP0.cell 9)
  go_region_held3 (fun W => Below (w.heap.size + 1) W0 W) (first | exact S10 | assumption | exact (Below.refl _ _).drew)
    (first | (go_at_call 26; refine Calls.mono (HC.out _ (by first | assumption | exact (Below.refl _ _).drew)) ?_; rintro e w1 ⟨v1, rfl, ho1, hB1⟩; have hS0 : Below (w.heap.size + 1) W0 _ := (by first | assumption | exact (Below.refl _ _).drew); have hS1 : Below (w.heap.size + 1) W0 w1 := hS0.trans (hB1.mono (by have := hS0.size; omega)); have hs1 := Sl.of_own ho1; obtain ⟨_, A1, c1, rfl, _⟩ := hs1; clear hS0; have hk : Blk w1 (w.heap.size + 1) _ _ := Blk.below (w := W0.drew) hK0 hB1 (by show w.heap.size + 1 < W0.heap.size; omega); have HK := Lib.hid hk; clear hk b0 b1 b2 b3 b4 b5 b6 b7 b8 b9 hP0 hK0 hp' HC hn hb0 hb1; dsimp only) | (have t0 := hS1; have t1 := t0.setCell (p := ⟨w.heap.size + 1, 0, none⟩) (Nat.le_refl _) (.int .u8 kind); have t2 := t1.setCell (p := ⟨w.heap.size + 1, 1, none⟩) (Nat.le_refl _) (.int .u8 state); have t3 := t2.setCell (p := ⟨w.heap.size + 1, 2, none⟩) (Nat.le_refl _) (.int .u32 addr); have t4 := t3.setCell (p := ⟨w.heap.size + 1, 3, none⟩) (Nat.le_refl _) (.int .u32 netA); have t5 := t4.setCell (p := ⟨w.heap.size + 1, 4, none⟩) (Nat.le_refl _) (.int .u8 netB); have t6 := t5.setCell (p := ⟨w.heap.size + 1, 5, none⟩) (Nat.le_refl _) (.int .u16 pcost); have t7 := t6.setCell (p := ⟨w.heap.size + 1, 6, none⟩) (Nat.le_refl _) (.int .u32 dr); have t8 := t7.setCell (p := ⟨w.heap.size + 1, 7, none⟩) (Nat.le_refl _) (.bool withDR); have t9 := t8.setCell (p := ⟨w.heap.size + 1, 8, none⟩) (Nat.le_refl _) (.slice A1 full.length c1); have t10 := t9.setCell (p := ⟨w.heap.size + 1, 9, none⟩) (Nat.le_refl _) (.int .u32 remote); have S10 := t10; clear t0 t1 t2 t3 t4 t5 t6 t7 t8 t9 t10; have o0 := ho1; have o1 := own_far o0 (p := ⟨w.heap.size + 1, 0, none⟩) (by show w.heap.size + 1 < W0.heap.size; omega) (.int .u8 kind); have o2 := own_far o1 (p := ⟨w.heap.size + 1, 1, none⟩) (by show w.heap.size + 1 < W0.heap.size; omega) (.int .u8 state); have o3 := own_far o2 (p := ⟨w.heap.size + 1, 2, none⟩) (by show w.heap.size + 1 < W0.heap.size; omega) (.int .u32 addr); have o4 := own_far o3 (p := ⟨w.heap.size + 1, 3, none⟩) (by show w.heap.size + 1 < W0.heap.size; omega) (.int .u32 netA); have o5 := own_far o4 (p := ⟨w.heap.size + 1, 4, none⟩) (by show w.heap.size + 1 < W0.heap.size; omega) (.int .u8 netB); have o6 := own_far o5 (p := ⟨w.heap.size + 1, 5, none⟩) (by show w.heap.size + 1 < W0.heap.size; omega) (.int .u16 pcost); have o7 := own_far o6 (p := ⟨w.heap.size + 1, 6, none⟩) (by show w.heap.size + 1 < W0.heap.size; omega) (.int .u32 dr); have o8 := own_far o7 (p := ⟨w.heap.size + 1, 7, none⟩) (by show w.heap.size + 1 < W0.heap.size; omega) (.bool withDR); have o9 := own_far o8 (p := ⟨w.heap.size + 1, 8, none⟩) (by show w.heap.size + 1 < W0.heap.size; omega) (.slice A1 full.length c1); have o10 := own_far o9 (p := ⟨w.heap.size + 1, 9, none⟩) (by show w.heap.size + 1 < W0.heap.size; omega) (.int .u32 remote); have O10 := Lib.hid o10; clear o0 o1 o2 o3 o4 o5 o6 o7 o8 o9 o10; have k0 := HK.out; have k1 := k0.set_ 0 (.int .u8 kind); have k2 := k1.set_ 1 (.int .u8 state); have k3 := k2.set_ 2 (.int .u32 addr); have k4 := k3.set_ 3 (.int .u32 netA); have k5 := k4.set_ 4 (.int .u8 netB); have k6 := k5.set_ 5 (.int .u16 pcost); have k7 := k6.set_ 6 (.int .u32 dr); have k8 := k7.set_ 7 (.bool withDR); have k9 := k8.set_ 8 (.slice A1 full.length c1); have k10 := k9.set_ 9 (.int .u32 remote); have q0 := Blk.ok k0 0 (by simp); obtain ⟨⟨u0, z0⟩, y0⟩ := q0; have q1 := Blk.ok k1 1 (by simp); obtain ⟨⟨u1, z1⟩, y1⟩ := q1; have q2 := Blk.ok k2 2 (by simp); obtain ⟨⟨u2, z2⟩, y2⟩ := q2; have q3 := Blk.ok k3 3 (by simp); obtain ⟨⟨u3, z3⟩, y3⟩ := q3; have q4 := Blk.ok k4 4 (by simp); obtain ⟨⟨u4, z4⟩, y4⟩ := q4; have q5 := Blk.ok k5 5 (by simp); obtain ⟨⟨u5, z5⟩, y5⟩ := q5; have q6 := Blk.ok k6 6 (by simp); obtain ⟨⟨u6, z6⟩, y6⟩ := q6; have q7 := Blk.ok k7 7 (by simp); obtain ⟨⟨u7, z7⟩, y7⟩ := q7; have q8 := Blk.ok k8 8 (by simp); obtain ⟨⟨u8, z8⟩, y8⟩ := q8; have q9 := Blk.ok k9 9 (by simp); obtain ⟨⟨u9, z9⟩, y9⟩ := q9; simp only [z0, y0, Bool.false_eq_true, if_false, Result.andThen_ok]; clear z0 y0; simp only [z1, y1, Bool.false_eq_true, if_false, Result.andThen_ok]; clear z1 y1; simp only [z2, y2, Bool.false_eq_true, if_false, Result.andThen_ok]; clear z2 y2; simp only [z3, y3, Bool.false_eq_true, if_false, Result.andThen_ok]; clear z3 y3; simp only [z4, y4, Bool.false_eq_true, if_false, Result.andThen_ok]; clear z4 y4; simp only [z5, y5, Bool.false_eq_true, if_false, Result.andThen_ok]; clear z5 y5; simp only [z6, y6, Bool.false_eq_true, if_false, Result.andThen_ok]; clear z6 y6; simp only [z7, y7, Bool.false_eq_true, if_false, Result.andThen_ok]; clear z7 y7; simp only [z8, y8, Bool.false_eq_true, if_false, Result.andThen_ok]; clear z8 y8; simp only [z9, y9, Bool.false_eq_true, if_false, Result.andThen_ok]; clear z9 y9; clear k0 k1 k2 k3 k4 k5 k6 k7 k8 k9; have K10 := Lib.hid k10; clear k10; replace S10 := Lib.hid S10; go_simp; replace S10 := S10.out))
  have K := K10.out
  have O := O10.out
  clear K10 O10 HK ho1 u0 u1 u2 u3 u4 u5 u6 u7 u8 u9
  revert K O S10
  generalize World.setCell _ ⟨w.heap.size + 1, 9, none⟩ _ = W
  intro hHeld K O
  simp only [List.setIfInBounds_toArray, List.set_cons_zero, List.set_cons_succ] at K
  replace O := Lib.hid O
  replace K := Lib.hid K
  go_wp2
  refine bodyPost_ret (results_cell_row rfl _ _ (w.heap.size + 1) 73 #[.int .u8 kind, .int .u8 state, .int .u32 addr, .int .u32 netA, .int .u8 netB, .int .u16 pcost, .int .u32 dr, .bool withDR, .slice A1 full.length c1, .int .u32 remote] (0, 0) _ rfl K.out Try.underlying73 rfl (by kernel_rfl)) rfl ?_
  exact ⟨A1, c1, rfl, own_less O.out (by show w.heap.size ≤ W0.heap.size; omega), hB0.trans (hHeld.mono (by omega))⟩
end Go.Proofs.Ytdilbcmnfpmijaa
