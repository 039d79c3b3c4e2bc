/- The document's numbers' bytes: lodestarref01.Four, and lodestarref06.four, two. Conditions: the number fits its bytes. -/
import Derived.Test.YtiikagabdiphkaaGreatOctB
namespace Go.Proofs.YtiikagabdiphkaaGreat
open Go.RowKit Go.Lo

theorem be4_take (v : Int) (n k : Nat) (hn : n ≤ 4) (hk : k < n) : (beN v n).take (k + 1) = (beN v n).take k ++ [(be4 v)[4 - n + k]'(by simp [be4]; omega)] := by
  rw [List.take_succ_eq_append_getElem (by rw [beN_len _ _ hn]; omega)]
  simp [beN]

set_option maxRecDepth 100000 in
set_option maxHeartbeats 1000000 in
theorem rfour_any (v : Int) (n : Nat) (hn : n = 2 ∨ n = 4) (hv : 0 ≤ v ∧ v < 4294967296) (w : World) : Calls Tryz.prog 153 #[.int .u32 v, .int .i64 n] w fun x w' => ∃ s, x = .returned s ∧ w'.ownsRow w.heap.size 5 1 s n ((beN v n).map u8c) ∧ Below w.heap.size w w' := by
  have hw : wrap64 ((n : Int) - 1) = (n : Int) - 1 := by unfold wrap64; omega
  go_enter Tryz.func153, Tryz.ntmps153
  go_wp2
  go_loopg [5, 6] n (fun m s i wr => ∃ (j : Nat) (u : Value), j ≤ n ∧ m = n - j ∧ s = u ∧ i = .int .i64 ((n : Int) - 1 - (j : Int)) ∧ wr.ownsRow w.heap.size 5 1 u j (((beN v n).take j).map u8c) ∧ Below w.heap.size w wr)
  case atStart =>
    exact ⟨0, _, Nat.zero_le _, rfl, rfl, by simp, World.ownsRow_nil _ _ _ _, Below.refl _ _⟩
  case round =>
    obtain ⟨j, u, hj, hm, rfl, rfl, ho, hB⟩ := hrel
    obtain ⟨w1, rfl⟩ : ∃ x : World, x = wr := ⟨_, rfl⟩
    obtain ⟨-, A, c, rfl, -⟩ := Sl.of_own ho
    by_cases hjn : j < n
    · have ht := be4_take v n j (by omega) hjn
      rcases hn with rfl | rfl
      · rcases (show j = 0 ∨ j = 1 by omega) with rfl | rfl
        · go_wp2_with (at_builtin; refine wpList_append rfl (.tmp 13) (.tmp 19) 52 rfl w.heap.size u8T (.slice A 0 c) 0 _ rfl (own_alloc ho _) _ _ 1 [.int .u8 (v / 256 % 256)] rfl (Sl.lit _ #[.int .u8 (v / 256 % 256)] 5 (by simp [maxLen]) rfl) (by simp [Value.oneCell']) (by simp only [maxLen]; omega) (by omega) (by have := hB.size; simp; omega) ?_; intro v3 w3 ho3 hg3 hob3)
          go_roundg (2 - (0 + 1))
          case measure => omega
          case rel =>
            refine ⟨0 + 1, v3, by omega, rfl, rfl, by simp, ?_, (below_alloc hB (Nat.le_refl _) _).trans (below_of_grown hg3 (by have := hB.size; simp; omega) (fun g hg => (ho.lt g hg).1))⟩
            rw [ht, List.map_append]
            exact ho3
        · go_wp2_with (at_builtin; refine wpList_append rfl (.tmp 13) (.tmp 19) 52 rfl w.heap.size u8T (.slice A 1 c) 1 _ rfl (own_alloc ho _) _ _ 1 [.int .u8 (v % 256)] rfl (Sl.lit _ #[.int .u8 (v % 256)] 5 (by simp [maxLen]) rfl) (by simp [Value.oneCell']) (by simp only [maxLen]; omega) (by omega) (by have := hB.size; simp; omega) ?_; intro v3 w3 ho3 hg3 hob3)
          go_roundg (2 - (1 + 1))
          case measure => omega
          case rel =>
            refine ⟨1 + 1, v3, by omega, rfl, rfl, by simp, ?_, (below_alloc hB (Nat.le_refl _) _).trans (below_of_grown hg3 (by have := hB.size; simp; omega) (fun g hg => (ho.lt g hg).1))⟩
            rw [ht, List.map_append]
            exact ho3
      · rcases (show j = 0 ∨ j = 1 ∨ j = 2 ∨ j = 3 by omega) with rfl | rfl | rfl | rfl
        · go_wp2_with (at_builtin; refine wpList_append rfl (.tmp 13) (.tmp 19) 52 rfl w.heap.size u8T (.slice A 0 c) 0 _ rfl (own_alloc ho _) _ _ 1 [.int .u8 (v / 16777216)] rfl (Sl.lit _ #[.int .u8 (v / 16777216)] 5 (by simp [maxLen]) rfl) (by simp [Value.oneCell']) (by simp only [maxLen]; omega) (by omega) (by have := hB.size; simp; omega) ?_; intro v3 w3 ho3 hg3 hob3)
          go_roundg (4 - (0 + 1))
          case measure => omega
          case rel =>
            refine ⟨0 + 1, v3, by omega, rfl, rfl, by simp, ?_, (below_alloc hB (Nat.le_refl _) _).trans (below_of_grown hg3 (by have := hB.size; simp; omega) (fun g hg => (ho.lt g hg).1))⟩
            rw [ht, List.map_append]
            rw [show (be4 v)[4 - 4 + 0] = v / 16777216 from by simp [be4]; omega]
            exact ho3
        · go_wp2_with (at_builtin; refine wpList_append rfl (.tmp 13) (.tmp 19) 52 rfl w.heap.size u8T (.slice A 1 c) 1 _ rfl (own_alloc ho _) _ _ 1 [.int .u8 (v / 65536 % 256)] rfl (Sl.lit _ #[.int .u8 (v / 65536 % 256)] 5 (by simp [maxLen]) rfl) (by simp [Value.oneCell']) (by simp only [maxLen]; omega) (by omega) (by have := hB.size; simp; omega) ?_; intro v3 w3 ho3 hg3 hob3)
          go_roundg (4 - (1 + 1))
          case measure => omega
          case rel =>
            refine ⟨1 + 1, v3, by omega, rfl, rfl, by simp, ?_, (below_alloc hB (Nat.le_refl _) _).trans (below_of_grown hg3 (by have := hB.size; simp; omega) (fun g hg => (ho.lt g hg).1))⟩
            rw [ht, List.map_append]
            exact ho3
        · go_wp2_with (at_builtin; refine wpList_append rfl (.tmp 13) (.tmp 19) 52 rfl w.heap.size u8T (.slice A 2 c) 2 _ rfl (own_alloc ho _) _ _ 1 [.int .u8 (v / 256 % 256)] rfl (Sl.lit _ #[.int .u8 (v / 256 % 256)] 5 (by simp [maxLen]) rfl) (by simp [Value.oneCell']) (by simp only [maxLen]; omega) (by omega) (by have := hB.size; simp; omega) ?_; intro v3 w3 ho3 hg3 hob3)
          go_roundg (4 - (2 + 1))
          case measure => omega
          case rel =>
            refine ⟨2 + 1, v3, by omega, rfl, rfl, by simp, ?_, (below_alloc hB (Nat.le_refl _) _).trans (below_of_grown hg3 (by have := hB.size; simp; omega) (fun g hg => (ho.lt g hg).1))⟩
            rw [ht, List.map_append]
            exact ho3
        · go_wp2_with (at_builtin; refine wpList_append rfl (.tmp 13) (.tmp 19) 52 rfl w.heap.size u8T (.slice A 3 c) 3 _ rfl (own_alloc ho _) _ _ 1 [.int .u8 (v % 256)] rfl (Sl.lit _ #[.int .u8 (v % 256)] 5 (by simp [maxLen]) rfl) (by simp [Value.oneCell']) (by simp only [maxLen]; omega) (by omega) (by have := hB.size; simp; omega) ?_; intro v3 w3 ho3 hg3 hob3)
          go_roundg (4 - (3 + 1))
          case measure => omega
          case rel =>
            refine ⟨3 + 1, v3, by omega, rfl, rfl, by simp, ?_, (below_alloc hB (Nat.le_refl _) _).trans (below_of_grown hg3 (by have := hB.size; simp; omega) (fun g hg => (ho.lt g hg).1))⟩
            rw [ht, List.map_append]
            exact ho3
    · obtain rfl : j = n := by omega
      go_wp2
      go_ret
      refine ⟨_, rfl, ?_, hB⟩
      rw [List.take_of_length_le (by rw [beN_len _ _ (by omega)]; omega)] at ho
      exact ho

theorem four_any (v : Int) (hv : 0 ≤ v ∧ v < 4294967296) (w : World) : Calls Tryz.prog 129 #[.int .u32 v] w fun x w' => ∃ s, x = .returned s ∧ w'.ownsRow w.heap.size 5 1 s 4 ((beN v 4).map u8c) ∧ Below w.heap.size w w' := by
  have C := Lib.hid (rfour_any v 4 (.inr rfl) hv w)
  go_enter Tryz.func129, Tryz.ntmps129
  go_wp2_with (go_at_call 153; refine Calls.mono C.out ?_; rintro x w1 ⟨s, rfl, ho, hB⟩)
  go_ret
  exact ⟨_, rfl, ho, hB⟩

theorem two_any (v : Int) (hv : 0 ≤ v ∧ v < 65536) (w : World) : Calls Tryz.prog 128 #[.int .u16 v] w fun x w' => ∃ s, x = .returned s ∧ w'.ownsRow w.heap.size 5 1 s 2 ((beN v 2).map u8c) ∧ Below w.heap.size w w' := by
  have C := Lib.hid (rfour_any v 2 (.inl rfl) (by omega) w)
  go_enter Tryz.func128, Tryz.ntmps128
  go_wp2_with (go_at_call 153; refine Calls.mono C.out ?_; rintro x w1 ⟨s, rfl, ho, hB⟩)
  go_ret
  exact ⟨_, rfl, ho, hB⟩
end Go.Proofs.YtiikagabdiphkaaGreat
