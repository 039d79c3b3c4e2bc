/- slices.heapSortOrdered at uint32. Conditions: the row is the call's own block, of fewer than 2^40 cells; at least one element. -/
import Derived.Test.YtdilbcmnfpmijaaSrtE
namespace Go.Proofs.Ytdilbcmnfpmijaa
open Go.RowKit Go.Lo

theorem size_sift (hi first : Nat) : ∀ (f root : Nat) (d : Array Int), hi - root ≤ f → (Sort.siftDown Sort.ltInt hi first root d).size = d.size := by
  intro f
  induction f with
  | zero =>
    intro root d hf
    unfold Sort.siftDown
    rw [dif_pos (by omega)]
  | succ f ih =>
    intro root d hf
    unfold Sort.siftDown
    split
    · rfl
    · split
      · split
        · rfl
        · split
          · rw [ih _ _ (by omega), Sort.size_swp]
          · rfl
      · split
        · rfl
        · rw [ih _ _ (by omega), Sort.size_swp]

set_option maxRecDepth 100000 in
set_option maxHeartbeats 1000000 in
theorem heap32_any (g n cap : Nat) (rest : List Value) (d : Array Int) (a b : Nat) (w : World) (h : RowU w g rest d w) (hd : d.size = n) (hab : a < b) (hb : b ≤ n) (hn : n ≤ 1099511627776) :
    Calls Try.prog 70 #[.slice (some ⟨g, 0, none⟩) n cap, .int .i64 a, .int .i64 b] w (RowPost w g rest (Sort.heapSort Sort.ltInt d a b)) := by
  obtain ⟨hi, hhi⟩ : ∃ hi, hi = b - a := ⟨_, rfl⟩
  obtain ⟨q, hq⟩ : ∃ q, q = (hi - 1) / 2 := ⟨_, rfl⟩
  have e1 : (b : Int) - (a : Int) = (hi : Int) := by omega
  have e2 : Int.tdiv ((hi : Int) - 1) 2 = (q : Int) := by rw [hq, Int.tdiv_eq_ediv_of_nonneg (by omega)]; omega
  have hh1 : 1 ≤ hi := by omega
  have hhn : a + hi ≤ n := by omega
  have hqn : q ≤ n := by omega
  have hE : Sort.heapSort Sort.ltInt d a b = Sort.heapPop Sort.ltInt a hi (Sort.heapBuild Sort.ltInt hi a (q + 1) d) := by
    unfold Sort.heapSort
    rw [← hhi, ← hq]
  obtain ⟨T, hT⟩ : ∃ T, T = Sort.heapSort Sort.ltInt d a b := ⟨_, rfl⟩
  rw [← hT] at hE
  rw [← hT]
  clear hT hhi hq
  go_enter Try.func70, Try.ntmps70
  go_wp2_with fail
  clear e2
  go_loopg [9] (q + 1) (fun m v wr => ∃ (k : Nat) (d1 : Array Int), k ≤ q + 1 ∧ k = m ∧ v = .int .i64 ((k : Int) - 1) ∧ d1.size = n ∧ T = Sort.heapPop Sort.ltInt a hi (Sort.heapBuild Sort.ltInt hi a k d1) ∧ RowU w g rest d1 wr)
  case atStart => exact ⟨q + 1, d, Nat.le_refl _, rfl, by go_num, hd, hE, h⟩
  case round =>
    obtain ⟨k, d1, hk, hkm, rfl, hd1, he, hR⟩ := hrel
    obtain ⟨w1, rfl⟩ : ∃ x : World, x = wr := ⟨_, rfl⟩
    clear h
    cases k with
    | zero =>
      have he' : T = Sort.heapPop Sort.ltInt a hi d1 := he
      replace he' := Lib.hid he'
      clear he hkm hE
      replace hR := Lib.hid hR
      go_wp2_with fail
      go_loopg [10] hi (fun m v wr => ∃ (k : Nat) (d2 : Array Int), k ≤ hi ∧ k = m ∧ v = .int .i64 ((k : Int) - 1) ∧ d2.size = n ∧ T = Sort.heapPop Sort.ltInt a k d2 ∧ RowU w g rest d2 wr)
      case atStart => exact ⟨hi, d1, Nat.le_refl _, rfl, by go_num, hd1, he'.out, hR.out⟩
      case round =>
        obtain ⟨k, d2, hk, hkm, rfl, hd2, he, hR2⟩ := hrel
        obtain ⟨w2, rfl⟩ : ∃ x : World, x = wr := ⟨_, rfl⟩
        cases k with
        | zero =>
          have he2 : T = d2 := he
          replace he2 := Lib.hid he2
          clear he
          go_wp2_with fail
          go_end0
          exact ⟨rfl, by rw [he2.out]; exact hR2⟩
        | succ j =>
          have he2 : T = Sort.heapPop Sort.ltInt a j (Sort.siftDown Sort.ltInt j a 0 (Sort.swp d2 a (a + j))) := he
          have c0 := hR2.cell (i := a) (by omega)
          have c1 := hR2.cell (i := a + j) (by omega)
          have f0 := hR2.free a
          have f1 := hR2.free (a + j)
          have hsw := hR2.swp (i := a) (j := a + j) (by omega) (by omega)
          have hsz := (Sort.size_swp d2 a (a + j)).trans hd2
          have i0 : (a : Int) < (n : Int) := by omega
          have i1 : (a : Int) + (j : Int) < (n : Int) := by omega
          have i2 : (0 : Int) ≤ (a : Int) + (j : Int) := by omega
          have t1 : ((a : Int) + (j : Int)).toNat = a + j := by omega
          have wA : IntKind.i64.wrap ((a : Int) + (j : Int)) = (a : Int) + (j : Int) := IntWalk.i64_in _ (by omega)
          have CS := fun w h => sift32_any g n cap rest (Sort.swp d2 a (a + j)) 0 j a w h hsz (by omega) (by omega) hn
          have hs2 := size_sift j a j 0 (Sort.swp d2 a (a + j)) (by omega)
          replace hs2 := Lib.hid (hs2.trans hsz)
          replace CS := Lib.hid CS
          replace he2 := Lib.hid he2
          replace hsw := Lib.hid hsw
          have hcs := (hR2.set (i := a) (by omega) d2[a + j]!).cell (i := a + j) (by simp; omega)
          generalize (d2.setIfInBounds a d2[a + j]!)[a + j]! = y at hcs
          generalize d2[a]! = x0 at *
          generalize d2[a + j]! = x1 at *
          clear he hsz hR2
          replace hkm := Lib.hid hkm
          go_wp2_with fail
          go_region
          go_wp2_with (go_at_call 85; refine Calls.mono (CS.out _ hsw.out.drew.self) ?_; rintro e w3 ⟨rfl, hR3⟩)
          go_roundg j
          case measure => have := hkm.out; omega
          case rel => exact ⟨j, Sort.siftDown Sort.ltInt j a 0 (Sort.swp d2 a (a + j)), by omega, rfl, by go_num, hs2.out, he2.out, hsw.out.drew.trans hR3⟩
    | succ j =>
      have he2 : T = Sort.heapPop Sort.ltInt a hi (Sort.heapBuild Sort.ltInt hi a j (Sort.siftDown Sort.ltInt hi a j d1)) := he
      have CS := sift32_any g n cap rest d1 j hi a w1 hR.self hd1 (by omega) (by omega) hn
      have hs2 := size_sift hi a hi j d1 (by omega)
      replace hs2 := Lib.hid (hs2.trans hd1)
      replace CS := Lib.hid CS
      replace he2 := Lib.hid he2
      replace hR := Lib.hid hR
      clear he hE
      replace hkm := Lib.hid hkm
      go_wp2_with (go_at_call 85; refine Calls.mono CS.out ?_; rintro e w3 ⟨rfl, hR3⟩)
      go_roundg j
      case measure => have := hkm.out; omega
      case rel => exact ⟨j, Sort.siftDown Sort.ltInt hi a j d1, by omega, rfl, by go_num, hs2.out, he2.out, hR.out.trans hR3⟩
end Go.Proofs.Ytdilbcmnfpmijaa
