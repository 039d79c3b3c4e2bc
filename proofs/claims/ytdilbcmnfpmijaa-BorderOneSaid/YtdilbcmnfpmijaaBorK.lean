/- lodestarlaw23's BorderOne: the walk. Conditions: the numbers lie in memory. -/
import Derived.Test.YtdilbcmnfpmijaaBorJ
import Derived.Test.YtdilbcmnfpmijaaOriR
namespace Go.Proofs.Ytdilbcmnfpmijaa
open Go.RowKit Go.Lo

theorem nodup_snoc {ids : List Int} (h : ids.Nodup) {x : Int} (hx : among ids ids.length x = false) : (ids ++ [x]).Nodup := by
  rw [List.nodup_append]
  refine ⟨h, by simp, fun a ha b hb => ?_⟩
  obtain rfl := List.mem_singleton.1 hb
  rintro rfl
  rw [among_all ids a ha] at hx
  cases hx

set_option maxRecDepth 100000 in
set_option maxHeartbeats 4000000 in
theorem borderOne_any (l : List Int) (lv : Value) (w : World) (hl : Sl w w.heap.size 1 lv l.length (l.flatMap u32Cells)) (h30 : l.length ≤ 30) (h0 : 0 < l.length) : Calls Try.prog 9 #[lv] w fun e w' => e = .returned (.bool true) ∧ Below w.heap.size w w' := by
  have hl0 := hl
  obtain ⟨-, A, c, rfl, -⟩ := hl
  obtain ⟨bl, ol, rfl, hbl, hlc⟩ := sl_get hl0 h0
  have i30 : ¬ (30 : Int) < (l.length : Int) := by omega
  have i0 : ((l.length : Int) == 0) = false := beq_false_of_ne (by omega)
  have i0' : ¬ (l.length : Int) = 0 := by omega
  clear hl0
  go_enter Try.func9, Try.ntmps9
  go_wp2_with fail
  clear i30 i0 i0'
  go_loopg [3, 4] l.length (fun m v3 v4 wr => ∃ (k : Nat) (ids : List Int), k ≤ l.length ∧ m = l.length - k ∧ v4 = .int .i64 k ∧ ids.Nodup ∧ ids.length ≤ k ∧ wr.ownsRow w.heap.size 22 1 v3 ids.length (ids.flatMap u32Cells) ∧ Below w.heap.size w wr)
  case atStart => exact ⟨0, [], Nat.zero_le _, rfl, rfl, List.nodup_nil, Nat.le_refl _, World.ownsRow_nil _ _ _ _, Below.refl _ _⟩
  case round =>
    obtain ⟨k, ids, hk, rfl, rfl, hnd, hik, ho, hB⟩ := hrel
    obtain ⟨w1, rfl⟩ : ∃ x : World, x = wr := ⟨_, rfl⟩
    by_cases hkl : k < l.length
    · have ck := (hB.cell (p := ⟨bl, ol + k, none⟩) hbl).trans (hlc k hkl)
      obtain ⟨x, hx⟩ : ∃ x, x = l[k] := ⟨_, rfl⟩
      rw [← hx] at ck
      clear hx
      have hs1 := hB.size
      have hls := Sl.of_own ho
      obtain ⟨-, A3, c3, rfl, -⟩ := id hls
      have ik : (k : Int) < (l.length : Int) := by omega
      replace hnd := Lib.hid hnd
      replace ho := Lib.hid ho
      replace hls := Lib.hid hls
      go_wp2_with fail
      generalize (x != 0) = p
      go_loopg [5, 6] ids.length (fun m v5 v6 wx => ∃ j : Nat, j ≤ ids.length ∧ m = ids.length - j ∧ v5 = .bool (p && !(among ids j x)) ∧ v6 = .int .i64 j ∧ Below w1.heap.size w1 wx)
      case atStart => exact ⟨0, Nat.zero_le _, rfl, by rw [among_zero]; simp, rfl, Below.refl _ _⟩
      case round =>
        obtain ⟨j, hj, rfl, rfl, rfl, hbj⟩ := hrel
        obtain ⟨w2, rfl⟩ : ∃ x : World, x = wr := ⟨_, rfl⟩
        by_cases hjl : j < ids.length
        · obtain ⟨bi, oi, rfl, hbi, hic⟩ := sl_get hls.out (by omega)
          have cj := (hbj.cell (p := ⟨bi, oi + j, none⟩) hbi).trans (hic j hjl)
          have ck2 := (hbj.cell (p := ⟨bl, ol + k, none⟩) (show bl < w1.heap.size by omega)).trans ck
          have hs := among_succ ids j x hjl
          have ij : (j : Int) < (ids.length : Int) := by omega
          generalize ids[j] = y at cj hs
          clear ck hic
          generalize among ids j x = q at hs ⊢
          cases hpq : (p && !q)
          · go_wp2_with fail
            go_quiet (fail)
            go_wp2
            go_roundg (ids.length - (j + 1))
            case measure => omega
            case rel => exact ⟨j + 1, by omega, rfl, by rw [hs]; cases p <;> cases q <;> simp_all, by go_num, below_drewN hbj nq⟩
          · by_cases hyx : y = x
            · subst hyx
              go_wp2_with fail
              go_quiet (fail)
              go_wp2
              go_roundg (ids.length - (j + 1))
              case measure => omega
              case rel => exact ⟨j + 1, by omega, rfl, by rw [hs]; cases p <;> cases q <;> simp_all, by go_num, below_drewN hbj nq⟩
            · have e1 : (y == x) = false := beq_false_of_ne hyx
              have e2 : (y != x) = true := by simpa using hyx
              go_wp2_with fail
              go_quiet (fail)
              go_wp2
              go_roundg (ids.length - (j + 1))
              case measure => omega
              case rel => exact ⟨j + 1, by omega, rfl, by rw [hs]; cases p <;> cases q <;> simp_all, by go_num, below_drewN hbj nq⟩
        · obtain rfl : j = ids.length := by omega
          have ck2 := (hbj.cell (p := ⟨bl, ol + k, none⟩) (show bl < w1.heap.size by omega)).trans ck
          have hB2 := below_call hB hbj (Nat.le_refl _)
          have ho2 := own_below ho.out hbj
          clear ck
          cases hpq : (p && !(among ids ids.length x))
          · replace ho2 := Lib.hid ho2
            go_wp2
            go_roundg (l.length - (k + 1))
            case measure => omega
            case rel => exact ⟨k + 1, ids, by omega, rfl, by go_num, hnd.out, by omega, ho2.out, hB2⟩
          · have hna : among ids ids.length x = false := by
              cases ha : among ids ids.length x
              · rfl
              · rw [ha] at hpq; simp at hpq
            replace hna := Lib.hid hna
            go_wp2_with (at_builtin; refine wpList_append rfl (.tmp 50) (.tmp 55) 29 rfl w.heap.size u32T _ _ _ rfl (own_alloc ho2 _) _ _ 1 [.int .u32 x] rfl (Sl.lit _ #[.int .u32 x] 22 (by simp [maxLen]) rfl) (by simp [Value.oneCell']) (by simp only [maxLen]; omega) (by omega) (by have := hB2.size; simp; omega) ?_; intro v4 w4 ho4 hg4 hob4)
            have hB4 := (hB2.alloc hB2.size (.cells #[.int .u32 x] 22)).trans (below_of_grown hg4 (by have := hB2.size; simp; omega) (fun g hg => (ho2.lt g hg).1))
            go_roundg (l.length - (k + 1))
            case measure => omega
            case rel => exact ⟨k + 1, ids ++ [x], by omega, rfl, by go_num, nodup_snoc hnd.out hna.out, by simp; omega, by rw [List.length_append, List.flatMap_append]; exact ho4, hB4⟩
    · obtain rfl : k = l.length := by omega
      have hls := Sl.of_own ho
      obtain ⟨-, A3, c3, rfl, -⟩ := id hls
      have hn30 : ids.length ≤ 30 := by omega
      replace hnd := Lib.hid hnd
      replace hls := Lib.hid hls
      replace hB := Lib.hid hB
      clear ho hlc hbl hkl hk hik
      go_wp2_with fail
      go_loopg [7, 8] ids.length (fun m v7 v8 wr => ∃ k nn : Nat, k ≤ ids.length ∧ m = ids.length - k ∧ v7 = .int .i64 nn ∧ v8 = .int .i64 k ∧ ((nn = 0 ∧ ∀ i, i < k → ¬ IsMax ids i) ∨ (nn = 1 ∧ ∃ i, i < k ∧ IsMax ids i)) ∧ Below w1.heap.size w1 wr)
      case atStart => exact ⟨0, 0, Nat.zero_le _, rfl, rfl, rfl, .inl ⟨rfl, fun i hi => absurd hi (by omega)⟩, Below.refl _ _⟩
      case round =>
        obtain ⟨k, nn, hk, rfl, rfl, rfl, hnn, hbk⟩ := hrel
        obtain ⟨w2, rfl⟩ : ∃ x : World, x = wr := ⟨_, rfl⟩
        by_cases hkl : k < ids.length
        · obtain ⟨bi, oi, rfl, hbi, hic⟩ := sl_get hls.out (by omega)
          have hs2 := hbk.size
          have ik : (k : Int) < (ids.length : Int) := by omega
          replace hic := Lib.hid hic
          replace hnn := Lib.hid hnn
          go_wp2_with fail
          go_loopg [9, 10] ids.length (fun m v9 v10 wx => ∃ (j : Nat) (rl : List BWay), j ≤ ids.length ∧ m = ids.length - j ∧ v10 = .int .i64 j ∧ rl.length ≤ j ∧ wx.ownsRow w2.heap.size 83 10 v9 rl.length (rl.flatMap bwayCells) ∧ (∀ x : Int, (∃ y ∈ rl, y.1 = x) ↔ ∃ j', ∃ h : j' < ids.length, j' < j ∧ j' ≠ k ∧ ids[j'] = x) ∧ Below w2.heap.size w2 wx)
          case atStart => exact ⟨0, [], Nat.zero_le _, rfl, rfl, Nat.le_refl _, World.ownsRow_nil _ _ _ _, fun x => ⟨fun ⟨y, hy, _⟩ => (by cases hy), fun ⟨j', _, h, _⟩ => absurd h (by omega)⟩, Below.refl _ _⟩
          case round =>
            obtain ⟨j, rl, hj, rfl, rfl, hrl, ho, hall, hbj⟩ := hrel
            obtain ⟨w3, rfl⟩ : ∃ x : World, x = wr := ⟨_, rfl⟩
            obtain ⟨-, A9, c9, rfl, -⟩ := Sl.of_own ho
            by_cases hjl : j < ids.length
            · have cj := (hbj.cell (p := ⟨bi, oi + j, none⟩) (show bi < w2.heap.size by omega)).trans ((hbk.cell (p := ⟨bi, oi + j, none⟩) hbi).trans (hic.out j hjl))
              obtain ⟨y, hy⟩ : ∃ y, y = ids[j] := ⟨_, rfl⟩
              rw [← hy] at cj
              have ij : (j : Int) < (ids.length : Int) := by omega
              replace hall := Lib.hid hall
              replace ho := Lib.hid ho
              replace hy := Lib.hid hy
              have hbs := hbj.size
              by_cases hjk : j = k
              · have e1 : ((j : Int) != (k : Int)) = false := by simp [hjk]
                have e2 : (j : Int) = (k : Int) := by omega
                go_wp2_with fail
                go_roundg (ids.length - (j + 1))
                case measure => omega
                case rel =>
                  refine ⟨j + 1, rl, by omega, rfl, by go_num, by omega, ho.out, fun x => (hall.out x).trans ⟨fun ⟨j', h, a, b, c⟩ => ⟨j', h, by omega, b, c⟩, fun ⟨j', h, a, b, c⟩ => ⟨j', h, by omega, b, c⟩⟩, hbj⟩
              · have e1 : ((j : Int) != (k : Int)) = true := by simp; omega
                have e2 : ¬ (j : Int) = (k : Int) := by omega
                have hbi3 : bi < w3.heap.size := by omega
                have hx := Sl.lit (n := 1) (s := 10) (w3.drew.alloc (.cells #[.int .u32 1, .int .u32 y, .bool false] 64)) #[.int .u32 0, .int .u8 0, .int .u32 y, .int .u8 1, .int .u8 1, .int .u32 0, .int .u32 0, .int .u32 0, .int .u32 0, .slice (some ⟨w3.heap.size, 0, none⟩) 1 1] 83 (by simp [maxLen]) rfl
                rw [show (w3.drew.alloc (.cells #[.int .u32 1, .int .u32 y, .bool false] 64)).heap.size = w3.heap.size + 1 by simp] at hx
                go_wp2_with fail
                go_region_law (refine step_append (w := (w3.drew.alloc (.cells #[.int .u32 1, .int .u32 y, .bool false] 64)).alloc (.cells #[.int .u32 0, .int .u8 0, .int .u32 y, .int .u8 1, .int .u8 1, .int .u32 0, .int .u32 0, .int .u32 0, .int .u32 0, .slice (some ⟨w3.heap.size, 0, none⟩) 1 1] 83)) rfl (.tmp 72) (.tmp 84) 81 rfl w2.heap.size wayT (.slice A9 rl.length c9) _ _ rfl (own_alloc (own_alloc (w := w3.drew) ho.out _) _) _ _ 1 (bwayCells (y, w3.heap.size)) rfl hx (by simp [bwayCells, Value.oneCell']) (by simp only [maxLen]; omega) (by omega) (by simp; omega) ?_; intro v5 w5 ho5 hg5 hob5)
                all_goals
                  have hB5 : Below w2.heap.size w2 w5 := ((hbj.drew.alloc (show w2.heap.size ≤ w3.heap.size by omega) (.cells #[.int .u32 1, .int .u32 y, .bool false] 64)).alloc (by simp; omega) _).trans (below_of_grown hg5 (by simp; omega) (fun g hg => (ho.out.lt g hg).1))
                  have HO5 := Lib.hid ho5
                  clear ho5 hg5 hob5
                  go_wp2_with fail
                  go_roundg (ids.length - (j + 1))
                  case measure => omega
                  case rel =>
                    refine ⟨j + 1, rl ++ [(y, w3.heap.size)], by omega, rfl, by go_num, by simp; omega, by rw [List.length_append, List.flatMap_append]; simpa using HO5.out, fun x => ⟨fun ⟨z, hz, hzx⟩ => ?_, fun ⟨j', h, a, b, c⟩ => ?_⟩, hB5⟩
                    · rcases List.mem_append.1 hz with hz | hz
                      · obtain ⟨j', h, a, b, c⟩ := (hall.out x).1 ⟨z, hz, hzx⟩
                        exact ⟨j', h, by omega, b, c⟩
                      · obtain rfl := List.mem_singleton.1 hz
                        exact ⟨j, hjl, by omega, hjk, by rw [← hzx, ← hy.out]⟩
                    · rcases Nat.lt_or_ge j' j with hlt | hge
                      · obtain ⟨z, hz, hzx⟩ := (hall.out x).2 ⟨j', h, hlt, b, c⟩
                        exact ⟨z, List.mem_append_left _ hz, hzx⟩
                      · obtain rfl : j' = j := by omega
                        exact ⟨(y, w3.heap.size), by simp, by rw [← c, ← hy.out]⟩
            · obtain rfl : j = ids.length := by omega
              have ck := (hbj.cell (p := ⟨bi, oi + k, none⟩) (show bi < w2.heap.size by omega)).trans ((hbk.cell (p := ⟨bi, oi + k, none⟩) hbi).trans (hic.out k hkl))
              have CC := chosen_any rl (.slice A9 rl.length c9) ids[k] w3 (Sl.of_own ho) (by omega)
              have hiff : (∀ x ∈ rl, x.1 ≤ ids[k]) ↔ IsMax ids k := by
                constructor
                · intro h
                  refine ⟨hkl, fun i hi => ?_⟩
                  by_cases hik : i = k
                  · subst hik; exact Int.le_refl _
                  · obtain ⟨z, hz, hzx⟩ := (hall (ids[i])).2 ⟨i, hi, hi, hik, rfl⟩
                    rw [← hzx]
                    exact h z hz
                · rintro ⟨_, h⟩ z hz
                  obtain ⟨j', h', a, b, c⟩ := (hall z.1).1 ⟨z, hz, rfl⟩
                  rw [← c]
                  exact h j' h'
              have hB3 := below_call hbk hbj (Nat.le_refl _)
              generalize ids[k] = x at ck CC hiff
              clear hall ho
              replace CC := Lib.hid CC
              replace hiff := Lib.hid hiff
              replace hB3 := Lib.hid hB3
              by_cases hmx : IsMax ids k
              · go_wp2_with (go_at_call 28; refine Calls.mono CC.out ?_; rintro e w4 ⟨q, rfl, hq, hB4⟩; obtain rfl : q = true := hq.2 (hiff.out.2 hmx); clear hq)
                go_roundg (ids.length - (k + 1))
                case measure => omega
                case rel =>
                  have h0 : nn = 0 := by
                    rcases hnn.out with ⟨h, _⟩ | ⟨_, i, hi, h⟩
                    · exact h
                    · exact absurd (isMax_one hnd.out h hmx) (by omega)
                  have e : wrap64 ((nn : Int) + 1) = ((nn + 1 : Nat) : Int) := by unfold wrap64; omega
                  exact ⟨k + 1, 1, by omega, rfl, by rw [e, h0], by go_num, .inr ⟨rfl, k, by omega, hmx⟩, below_call hB3.out hB4 (Nat.le_refl _)⟩
              · go_wp2_with (go_at_call 28; refine Calls.mono CC.out ?_; rintro e w4 ⟨q, rfl, hq, hB4⟩; obtain rfl : q = false := (by cases q; rfl; exact absurd (hiff.out.1 (hq.1 rfl)) hmx); clear hq)
                go_roundg (ids.length - (k + 1))
                case measure => omega
                case rel =>
                  refine ⟨k + 1, nn, by omega, rfl, rfl, by go_num, ?_, below_call hB3.out hB4 (Nat.le_refl _)⟩
                  rcases hnn.out with ⟨h, hno⟩ | ⟨h, i, hi, hm⟩
                  · refine .inl ⟨h, fun i hi => ?_⟩
                    by_cases hik : i = k
                    · subst hik; exact hmx
                    · exact hno i (by omega)
                  · exact .inr ⟨h, i, by omega, hm⟩
        · obtain rfl : k = ids.length := by omega
          have hBe := Lib.hid (below_call hB.out hbk (Nat.le_refl _))
          rcases hnn with ⟨rfl, hno⟩ | ⟨rfl, i, hi, hm⟩
          · have hz : ids.length = 0 := by
              rcases Nat.eq_zero_or_pos ids.length with h | h
              · exact h
              · obtain ⟨i, hm⟩ := isMax_some ids h
                exact absurd hm (hno i hm.1)
            obtain rfl : ids = [] := List.eq_nil_of_length_eq_zero hz
            clear hno
            go_wp2_with (go_at_call 27; refine Calls.mono (works23_any _) ?_; rintro e w4 ⟨rfl, hB4⟩)
            go_ret
            exact ⟨rfl, below_call hBe.out hB4 (Nat.le_refl _)⟩
          · have hp : (0 : Int) < (ids.length : Int) := by omega
            clear hm
            go_wp2_with (go_at_call 27; refine Calls.mono (works23_any _) ?_; rintro e w4 ⟨rfl, hB4⟩)
            go_ret
            exact ⟨rfl, below_call hBe.out hB4 (Nat.le_refl _)⟩
end Go.Proofs.Ytdilbcmnfpmijaa
