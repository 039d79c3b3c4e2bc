/- The document's Encode at the types 3 and 5: lodestarref06.May, lay, Encode. Conditions: the numbers are of their kinds, the mask is one, the metric is no more than infinity. -/
import Derived.Test.YtiikagabdiphkaaGreatEncD
import Derived.Test.YtiikagabdiphkaaGreatEncE
namespace Go.Proofs.YtiikagabdiphkaaGreat
open Go.RowKit Go.Lo

set_option maxRecDepth 100000 in
set_option maxHeartbeats 1000000 in
theorem rmay3 (m k : Int) (n : Nat) (hm : MaskOf m n) (hk : k ≤ 16777215) (w : World) : Calls Tryz.prog 87 #[.int .u8 3, .agg (numC m k false 0 0)] w fun x w' => x = .returned (.bool true) ∧ Below w.heap.size w w' := by
  have hB : Below w.heap.size w (w.alloc (.cells (numC m k false 0 0) 93)) := (Below.refl _ _).alloc (Nat.le_refl _) _
  have q0 : Blk (w.alloc (.cells (numC m k false 0 0) 93)) w.heap.size 93 (numC m k false 0 0) := Blk.new _ _ _
  have C := Lib.hid (fun W => rbits_any m n hm W)
  have CA := Lib.hid (fun W => alone3 m k W)
  have hd : decide (16777215 < k) = false := decide_eq_false (by omega)
  go_enter Tryz.func87, Tryz.ntmps87
  go_upto_region 2 with (go_at_call 69; refine Calls.mono (C.out _) ?_; rintro x w1 ⟨rfl, rfl⟩)
  go_upto_region 4 with (go_at_call 127; refine Calls.mono (CA.out _) ?_; rintro x w1 ⟨rfl, k1⟩; have q1 := q0.below k1 q0.lt; have x4 := q1.cell 4; have x8 := q1.cell 8; have x3 := q1.cell 3; have x1 := q1.cell 1; simp only [List.getElem?_toArray, List.getElem?_cons_zero, List.getElem?_cons_succ] at x4 x8 x3 x1)
  have B1 := hB.trans (k1.mono hB.size)
  go_wp2
  go_loopg [7] 0 (fun mm i wr => mm = 0 ∧ i = .int .i64 0 ∧ wr = w1)
  case atStart => exact ⟨rfl, rfl, rfl⟩
  case round =>
    obtain ⟨-, rfl, rfl⟩ := hrel
    go_wp2
    go_ret
    exact ⟨rfl, B1⟩

set_option maxRecDepth 100000 in
set_option maxHeartbeats 1000000 in
theorem rmay5 (m k : Int) (t2 : Bool) (fw tg : Int) (n : Nat) (hm : MaskOf m n) (hk : k ≤ 16777215) (w : World) : Calls Tryz.prog 87 #[.int .u8 5, .agg (numC m k t2 fw tg)] w fun x w' => x = .returned (.bool true) ∧ Below w.heap.size w w' := by
  have hB : Below w.heap.size w (w.alloc (.cells (numC m k t2 fw tg) 93)) := (Below.refl _ _).alloc (Nat.le_refl _) _
  have q0 : Blk (w.alloc (.cells (numC m k t2 fw tg) 93)) w.heap.size 93 (numC m k t2 fw tg) := Blk.new _ _ _
  have C := Lib.hid (fun W => rbits_any m n hm W)
  have CA := Lib.hid (fun W => alone5 m k t2 fw tg W)
  have hd : decide (16777215 < k) = false := decide_eq_false (by omega)
  go_enter Tryz.func87, Tryz.ntmps87
  go_upto_region 2 with (go_at_call 69; refine Calls.mono (C.out _) ?_; rintro x w1 ⟨rfl, rfl⟩)
  go_upto_region 4 with (go_at_call 127; refine Calls.mono (CA.out _) ?_; rintro x w1 ⟨rfl, k1⟩; have q1 := q0.below k1 q0.lt; have x4 := q1.cell 4; have x8 := q1.cell 8; have x3 := q1.cell 3; have x1 := q1.cell 1; simp only [List.getElem?_toArray, List.getElem?_cons_zero, List.getElem?_cons_succ] at x4 x8 x3 x1)
  have B1 := hB.trans (k1.mono hB.size)
  go_wp2
  go_loopg [7] 0 (fun mm i wr => mm = 0 ∧ i = .int .i64 0 ∧ wr = w1)
  case atStart => exact ⟨rfl, rfl, rfl⟩
  case round =>
    obtain ⟨-, rfl, rfl⟩ := hrel
    go_wp2
    go_ret
    exact ⟨rfl, B1⟩

set_option maxRecDepth 100000 in
set_option maxHeartbeats 2000000 in
theorem lay3 (m k : Int) (hm : 0 ≤ m ∧ m < 4294967296) (hk : 0 ≤ k ∧ k < 4294967296) (w : World) : Calls Tryz.prog 88 #[.int .u8 3, .agg (numC m k false 0 0)] w fun x w' => ∃ s, x = .returned s ∧ w'.ownsRow w.heap.size 5 1 s 8 ((beN m 4 ++ beN k 4).map u8c) ∧ Below w.heap.size w w' := by
  have hw := Nat.le_refl w.heap.size
  have S0 : BS w (w.alloc (.cells (numC m k false 0 0) 93)) w.heap.size 93 (numC m k false 0 0) (.slice none 0 0) [] := ⟨Blk.new _ _ _, World.ownsRow_nil _ _ _ _, (Below.refl _ _).alloc (Nat.le_refl _) _⟩
  go_enter Tryz.func88, Tryz.ntmps88
  go_upto_region 1 with fail
  dsimp only [numC] at S0
  generalize w.alloc (.cells (#[.int .u8 0, .slice none 0 0, .int .u32 m, .slice none 0 0, .int .u32 k, .bool false, .int .u32 0, .int .u32 0, .slice none 0 0] : Array Value) 93) = W0 at S0 ⊢
  have x2 := S0.blk.cell 2
  simp only [List.getElem?_toArray, List.getElem?_cons_zero, List.getElem?_cons_succ] at x2
  have hl0 : (([] : List Int)).length = 0 := rfl
  have O0 := S0.own
  rw [hl0] at O0
  obtain ⟨-, A0, c0, hv0, -⟩ := Sl.of_own O0
  clear hv0
  replace O0 := Lib.hid O0
  have Z0 := S0.blk.lt
  replace S0 := Lib.hid S0
  have C := Lib.hid (four_any (m) hm W0)
  go_upto_region 24 with (first
    | (go_at_call 129; refine Calls.mono C.out ?_; rintro x Y1 ⟨s, rfl, hs, kk⟩; obtain ⟨-, As, cs, rfl, -⟩ := Sl.of_own hs; have hs2 := Lib.hid hs; clear hs; have kz := kk.size)
    | (at_builtin; refine wpList_append rfl (.tmp 86) (.tmp 89) 52 rfl (w.heap.size + 1) u8T _ 0 _ rfl (own_below O0.out kk) _ _ 4 _ rfl (Sl.of_own hs2.out) (u8s_oneCell _) (by simp only [maxLen]; omega) (by omega) (by omega) ?_; intro v1 W1 ho hg hob))
  have S1 : BS w W1 w.heap.size 93 _ v1 (beN (m) 4) := S0.out.step (M := beN (m) 4) hw kk hg (by rw [hl0, beN_len _ _ (by omega)]; exact ho)
  clear ho hg hob O0 x2 S0 hl0 C hs2 kk
  have x4 := S1.blk.cell 4
  simp only [List.getElem?_toArray, List.getElem?_cons_zero, List.getElem?_cons_succ] at x4
  have hl1 : (beN (m) 4).length = 4 := by simp [beN_len]
  have O1 := S1.own
  rw [hl1] at O1
  obtain ⟨-, A1, c1, hv1, -⟩ := Sl.of_own O1
  subst hv1
  replace O1 := Lib.hid O1
  have Z1 := S1.blk.lt
  replace S1 := Lib.hid S1
  have C := Lib.hid (four_any (k) hk W1)
  go_wp2_with (first
    | (go_at_call 129; refine Calls.mono C.out ?_; rintro x Y2 ⟨s, rfl, hs, kk⟩; obtain ⟨-, As, cs, rfl, -⟩ := Sl.of_own hs; have hs2 := Lib.hid hs; clear hs; have kz := kk.size)
    | (at_builtin; refine wpList_append rfl (.tmp 91) (.tmp 94) 52 rfl (w.heap.size + 1) u8T _ 4 _ rfl (own_below O1.out kk) _ _ 4 _ rfl (Sl.of_own hs2.out) (u8s_oneCell _) (by simp only [maxLen]; omega) (by omega) (by omega) ?_; intro v2 W2 ho hg hob))
  have S2 := S1.out.step (M := beN (k) 4) hw kk hg (by rw [hl1, beN_len _ _ (by omega)]; exact ho)
  go_ret
  refine ⟨_, rfl, ?_, S2.far⟩
  have O := own_less S2.own (Nat.le_succ _)
  rw [show (beN (m) 4 ++ beN (k) 4).length = 8 from by simp [beN_len]] at O
  exact O

set_option maxRecDepth 100000 in
set_option maxHeartbeats 2000000 in
theorem lay5 (m k fw tg : Int) (hm : 0 ≤ m ∧ m < 4294967296) (hk : 0 ≤ k ∧ k < 4294967296) (hfw : 0 ≤ fw ∧ fw < 4294967296) (htg : 0 ≤ tg ∧ tg < 4294967296) (w : World) : Calls Tryz.prog 88 #[.int .u8 5, .agg (numC m k false fw tg)] w fun x w' => ∃ s, x = .returned s ∧ w'.ownsRow w.heap.size 5 1 s 16 ((beN m 4 ++ beN k 4 ++ beN fw 4 ++ beN tg 4).map u8c) ∧ Below w.heap.size w w' := by
  have hw := Nat.le_refl w.heap.size
  have S0 : BS w (w.alloc (.cells (numC m k false fw tg) 93)) w.heap.size 93 (numC m k false fw tg) (.slice none 0 0) [] := ⟨Blk.new _ _ _, World.ownsRow_nil _ _ _ _, (Below.refl _ _).alloc (Nat.le_refl _) _⟩
  go_enter Tryz.func88, Tryz.ntmps88
  go_upto_region 1 with fail
  dsimp only [numC] at S0
  generalize w.alloc (.cells (#[.int .u8 0, .slice none 0 0, .int .u32 m, .slice none 0 0, .int .u32 k, .bool false, .int .u32 fw, .int .u32 tg, .slice none 0 0] : Array Value) 93) = W0 at S0 ⊢
  have x2 := S0.blk.cell 2
  simp only [List.getElem?_toArray, List.getElem?_cons_zero, List.getElem?_cons_succ] at x2
  have hl0 : (([] : List Int)).length = 0 := rfl
  have O0 := S0.own
  rw [hl0] at O0
  obtain ⟨-, A0, c0, hv0, -⟩ := Sl.of_own O0
  clear hv0
  replace O0 := Lib.hid O0
  have Z0 := S0.blk.lt
  replace S0 := Lib.hid S0
  have C := Lib.hid (four_any (m) hm W0)
  go_upto_region 28 with (first
    | (go_at_call 129; refine Calls.mono C.out ?_; rintro x Y1 ⟨s, rfl, hs, kk⟩; obtain ⟨-, As, cs, rfl, -⟩ := Sl.of_own hs; have hs2 := Lib.hid hs; clear hs; have kz := kk.size)
    | (at_builtin; refine wpList_append rfl (.tmp 99) (.tmp 102) 52 rfl (w.heap.size + 1) u8T _ 0 _ rfl (own_below O0.out kk) _ _ 4 _ rfl (Sl.of_own hs2.out) (u8s_oneCell _) (by simp only [maxLen]; omega) (by omega) (by omega) ?_; intro v1 W1 ho hg hob))
  have S1 : BS w W1 w.heap.size 93 _ v1 (beN (m) 4) := S0.out.step (M := beN (m) 4) hw kk hg (by rw [hl0, beN_len _ _ (by omega)]; exact ho)
  clear ho hg hob O0 x2 S0 hl0 C hs2 kk
  have x4 := S1.blk.cell 4
  have x5 := S1.blk.cell 5
  simp only [List.getElem?_toArray, List.getElem?_cons_zero, List.getElem?_cons_succ] at x4 x5
  have hl1 : (beN (m) 4).length = 4 := by simp [beN_len]
  have O1 := S1.own
  rw [hl1] at O1
  obtain ⟨-, A1, c1, hv1, -⟩ := Sl.of_own O1
  subst hv1
  replace O1 := Lib.hid O1
  have Z1 := S1.blk.lt
  replace S1 := Lib.hid S1
  have C := Lib.hid (four_any (k) hk W1)
  go_upto_region 32 with (first
    | (go_at_call 129; refine Calls.mono C.out ?_; rintro x Y2 ⟨s, rfl, hs, kk⟩; obtain ⟨-, As, cs, rfl, -⟩ := Sl.of_own hs; have hs2 := Lib.hid hs; clear hs; have kz := kk.size)
    | (at_builtin; refine wpList_append rfl (.tmp 110) (.tmp 112) 52 rfl (w.heap.size + 1) u8T _ 4 _ rfl (own_below O1.out kk) _ _ 4 _ rfl (Sl.of_own hs2.out) (u8s_oneCell _) (by simp only [maxLen]; omega) (by omega) (by omega) ?_; intro v2 W2 ho hg hob))
  have S2 : BS w W2 w.heap.size 93 _ v2 (beN (m) 4 ++ beN (k) 4) := S1.out.step (M := beN (k) 4) hw kk hg (by rw [hl1, beN_len _ _ (by omega)]; exact ho)
  clear ho hg hob O1 x4 x5 S1 hl1 C hs2 kk
  have x6 := S2.blk.cell 6
  simp only [List.getElem?_toArray, List.getElem?_cons_zero, List.getElem?_cons_succ] at x6
  have hl2 : (beN (m) 4 ++ beN (k) 4).length = 8 := by simp [beN_len]
  have O2 := S2.own
  rw [hl2] at O2
  obtain ⟨-, A2, c2, hv2, -⟩ := Sl.of_own O2
  subst hv2
  replace O2 := Lib.hid O2
  have Z2 := S2.blk.lt
  replace S2 := Lib.hid S2
  have C := Lib.hid (four_any (fw) hfw W2)
  go_upto_region 33 with (first
    | (go_at_call 129; refine Calls.mono C.out ?_; rintro x Y3 ⟨s, rfl, hs, kk⟩; obtain ⟨-, As, cs, rfl, -⟩ := Sl.of_own hs; have hs2 := Lib.hid hs; clear hs; have kz := kk.size)
    | (at_builtin; refine wpList_append rfl (.tmp 114) (.tmp 117) 52 rfl (w.heap.size + 1) u8T _ 8 _ rfl (own_below O2.out kk) _ _ 4 _ rfl (Sl.of_own hs2.out) (u8s_oneCell _) (by simp only [maxLen]; omega) (by omega) (by omega) ?_; intro v3 W3 ho hg hob))
  have S3 : BS w W3 w.heap.size 93 _ v3 (beN (m) 4 ++ beN (k) 4 ++ beN (fw) 4) := S2.out.step (M := beN (fw) 4) hw kk hg (by rw [hl2, beN_len _ _ (by omega)]; exact ho)
  clear ho hg hob O2 x6 S2 hl2 C hs2 kk
  have x7 := S3.blk.cell 7
  simp only [List.getElem?_toArray, List.getElem?_cons_zero, List.getElem?_cons_succ] at x7
  have hl3 : (beN (m) 4 ++ beN (k) 4 ++ beN (fw) 4).length = 12 := by simp [beN_len]
  have O3 := S3.own
  rw [hl3] at O3
  obtain ⟨-, A3, c3, hv3, -⟩ := Sl.of_own O3
  subst hv3
  replace O3 := Lib.hid O3
  have Z3 := S3.blk.lt
  replace S3 := Lib.hid S3
  have C := Lib.hid (four_any (tg) htg W3)
  go_wp2_with (first
    | (go_at_call 129; refine Calls.mono C.out ?_; rintro x Y4 ⟨s, rfl, hs, kk⟩; obtain ⟨-, As, cs, rfl, -⟩ := Sl.of_own hs; have hs2 := Lib.hid hs; clear hs; have kz := kk.size)
    | (at_builtin; refine wpList_append rfl (.tmp 119) (.tmp 122) 52 rfl (w.heap.size + 1) u8T _ 12 _ rfl (own_below O3.out kk) _ _ 4 _ rfl (Sl.of_own hs2.out) (u8s_oneCell _) (by simp only [maxLen]; omega) (by omega) (by omega) ?_; intro v4 W4 ho hg hob))
  have S4 := S3.out.step (M := beN (tg) 4) hw kk hg (by rw [hl3, beN_len _ _ (by omega)]; exact ho)
  go_ret
  refine ⟨_, rfl, ?_, S4.far⟩
  have O := own_less S4.own (Nat.le_succ _)
  rw [show (beN (m) 4 ++ beN (k) 4 ++ beN (fw) 4 ++ beN (tg) 4).length = 16 from by simp [beN_len]] at O
  exact O
end Go.Proofs.YtiikagabdiphkaaGreat
