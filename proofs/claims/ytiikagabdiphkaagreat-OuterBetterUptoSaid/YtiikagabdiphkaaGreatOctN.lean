/- slices.Equal of bytes. Conditions: both lie in memory. -/
import Derived.Test.YtiikagabdiphkaaGreatOctM
namespace Go.Proofs.YtiikagabdiphkaaGreat
open Go.RowKit Go.Lo

/-- what a slice of bytes reads -/
theorem sl_get8 {w : World} {B : Nat} {v : Value} {l : List Int} (h : Sl w B 1 v l.length (l.map u8c)) (hn : 0 < l.length) :
    ∃ b off c, v = .slice (some ⟨b, off, none⟩) l.length c ∧ b < B ∧ ∀ k (hk : k < l.length), w.cell? ⟨b, off + k, none⟩ = some (.int .u8 l[k]) := by
  obtain ⟨_, A, c, rfl, _, _, h4⟩ := h
  obtain ⟨b, off, rfl, hb, hc⟩ := h4 hn
  refine ⟨b, off, c, rfl, hb, fun k hk => hc k _ ?_⟩
  rw [List.getElem?_map, List.getElem?_eq_getElem hk]
  rfl

set_option maxRecDepth 100000 in
set_option maxHeartbeats 1000000 in
theorem equal8_any (B1 B2 : Nat) (xv yv : Value) (xs ys : List Int) (w : World) (hx : Sl w B1 1 xv xs.length (xs.map u8c)) (hy : Sl w B2 1 yv ys.length (ys.map u8c)) (hn : xs.length ≤ 140737488355328) :
    Calls Tryz.prog 112 #[xv, yv] w fun x w' => x = .returned (.bool (decide (xs = ys))) ∧ Below w.heap.size w w' := by
  have hx0 := hx
  have hy0 := hy
  obtain ⟨-, A, c, rfl, -⟩ := hx
  obtain ⟨-, A', c', rfl, -⟩ := hy
  by_cases hlen : xs.length = ys.length
  · have e1 : ((xs.length : Int) != (ys.length : Int)) = false := by simp [hlen]
    have e2 : (xs.length : Int) = (ys.length : Int) := by omega
    replace hx0 := Lib.hid hx0
    replace hy0 := Lib.hid hy0
    go_enter Tryz.func112, Tryz.ntmps112
    go_wp2_with fail
    go_loopg [13] xs.length (fun m i wr => ∃ k : Nat, k ≤ xs.length ∧ m = xs.length - k ∧ i = .int .i64 k ∧ (∀ j (h1 : j < xs.length) (h2 : j < ys.length), j < k → xs[j] = ys[j]) ∧ Below w.heap.size w wr ∧ (∀ p : Addr, wr.cell? p = w.cell? p))
    case atStart => exact ⟨0, Nat.zero_le _, rfl, rfl, fun j _ _ h => absurd h (by omega), Below.refl _ _, fun _ => rfl⟩
    case round =>
      obtain ⟨k, hk, hmk, rfl, hall, hB, hsame⟩ := hrel
      obtain ⟨w1, rfl⟩ : ∃ x : World, x = wr := ⟨_, rfl⟩
      by_cases hkl : k < xs.length
      · obtain ⟨b1, o1, d1, hv1, _, hc1⟩ := sl_get8 hx0.out (by omega)
        obtain ⟨b2, o2, d2, hv2, _, hc2⟩ := sl_get8 hy0.out (by omega)
        simp only [Value.slice.injEq] at hv1 hv2
        obtain ⟨rfl, -, rfl⟩ := hv1
        obtain ⟨rfl, -, rfl⟩ := hv2
        have x0 := (hsame ⟨b1, o1 + k, none⟩).trans (hc1 k hkl)
        have y0 := (hsame ⟨b2, o2 + k, none⟩).trans (hc2 k (by omega))
        have ik : (k : Int) < (ys.length : Int) := by omega
        have ik1 : (k : Int) < (xs.length : Int) := by omega
        obtain ⟨x, hxe⟩ : ∃ x, x = xs[k] := ⟨_, rfl⟩
        obtain ⟨y, hye⟩ : ∃ y, y = ys[k]'(by omega) := ⟨_, rfl⟩
        rw [← hxe] at x0
        rw [← hye] at y0
        replace hall := Lib.hid hall
        replace hsame := Lib.hid hsame
        replace hxe := Lib.hid hxe
        replace hye := Lib.hid hye
        clear hc1 hc2
        by_cases hxy : x = y
        · subst hxy
          go_wp2_with fail
          go_region
          go_wp2
          go_roundg (xs.length - (k + 1))
          case measure => omega
          case rel =>
            refine ⟨k + 1, by omega, rfl, by go_num, fun j h1 h2 hj => ?_, hB.drew, hsame.out⟩
            rcases Nat.lt_or_ge j k with h | h
            · exact hall.out j h1 h2 h
            · obtain rfl : j = k := by omega
              rw [← hxe.out, ← hye.out]
        · have e3 : (x != y) = true := by simpa using hxy
          go_wp2_with fail
          go_region
          go_wp2
          go_ret
          have hne : decide (xs = ys) = false := decide_eq_false fun e => hxy (by rw [hxe.out, hye.out]; subst e; rfl)
          rw [hne]
          exact ⟨rfl, hB.drew⟩
      · obtain rfl : k = xs.length := by omega
        have heq : xs = ys := List.ext_getElem hlen fun j h1 h2 => hall j h1 h2 h1
        clear hall hsame
        replace heq := Lib.hid heq
        go_wp2
        go_ret
        rw [decide_eq_true heq.out]
        exact ⟨rfl, hB⟩
  · have e1 : ((xs.length : Int) != (ys.length : Int)) = true := by simp; omega
    have e2 : ¬ (xs.length : Int) = (ys.length : Int) := by omega
    rw [decide_eq_false (fun e => hlen (by rw [e]))]
    clear hx0 hy0
    go_enter Tryz.func112, Tryz.ntmps112
    go_wp2
    go_ret
    exact ⟨rfl, Below.refl _ _⟩
end Go.Proofs.YtiikagabdiphkaaGreat
