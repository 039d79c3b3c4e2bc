/- slices.Sort and slices.Compact at uint32. Conditions: the row is the call's own block, of fewer than 2^40 cells. -/
import Derived.Test.YtdilbcmnfpmijaaSrtL
import Derived.Lib.SlicesCompact
import Derived.Lib.SliceRun
namespace Go.Proofs.Ytdilbcmnfpmijaa
open Go.RowKit Go.Lo

theorem bitLenAux_le : ∀ f x, Lib.bitLenAux f x ≤ f
  | 0, _ => Nat.le_refl _
  | f + 1, x => by
    unfold Lib.bitLenAux
    split
    · omega
    · have := bitLenAux_le f (x / 2); omega

set_option maxRecDepth 100000 in
theorem sort32_any (g n cap : Nat) (rest : List Value) (hn : n ≤ 1099511627776) (d : Array Int) (w : World) (h : RowU w g rest d w) (hd : d.size = n) :
    Calls Try.prog 35 #[.slice (some ⟨g, 0, none⟩) n cap] w (PdqPost w g rest d 0 n) := by
  have hl : Lib.bitLen n ≤ 1000 := Nat.le_trans (bitLenAux_le 64 n) (by omega)
  have q1 : IntKind.u64.wrap (n : Int) = (n : Int) := by rw [IntKind.wrap_u64]; omega
  have C1 := Try.bits_Len (n : Int) w (by omega) (by omega)
  rw [Int.toNat_natCast] at C1
  have C2 := pdq32_any g n cap rest hn n d 0 n (Lib.bitLen n) w (by omega) h hd (by omega) (Nat.le_refl _) hl (.inl rfl)
  generalize Lib.bitLen n = L at *
  replace C1 := Lib.hid C1
  replace C2 := Lib.hid C2
  clear h hd
  go_enter Try.func35, Try.ntmps35
  go_wp2_with (first
    | (go_at_call 53; refine Calls.mono C1.out ?_; rintro e w1 ⟨rfl, rfl⟩)
    | (go_at_call 52; refine Calls.mono C2.out ?_; rintro e w2 ⟨rfl, hR⟩)
    | fail)
  go_end0
  exact ⟨rfl, hR⟩

theorem RowU.sets {w0 : World} {g : Nat} {rest : List Value} : ∀ (xs : List Int) (d : Array Int) (k : Nat) (w : World), RowU w0 g rest d w → k + xs.length ≤ d.size → RowU w0 g rest (Lib.lay d k xs) (w.setCells g k (xs.map u32c))
  | [], _, _, _, h, _ => h
  | x :: r, d, k, w, h, hl => by
    have hl' : k + (r.length + 1) ≤ d.size := by simpa using hl
    simp only [List.map_cons, World.setCells, Lib.lay]
    exact RowU.sets r _ (k + 1) _ (h.set (by omega) x) (by rw [Array.size_setIfInBounds]; omega)

/-- the row behind Compact -/
def cmpRow (d : Array Int) : Array Int := (Lib.compactUpTo d d.size ++ List.replicate (d.size - (Lib.compactUpTo d d.size).length) 0).toArray
theorem cmpRow_same (d : Array Int) (h : ∀ j, j < d.size → Lib.keeps d j = true) : (Lib.compactUpTo d d.size).length = d.size ∧ cmpRow d = d := by
  have e : Lib.compactUpTo d d.size = d.toList := by rw [Lib.compactUpTo_all d _ h, Lib.range_map_get]
  unfold cmpRow
  rw [e]
  simp

def CmpPost (w : World) (g cap : Nat) (rest : List Value) (d : Array Int) (e : Ending) (w' : World) : Prop :=
  e = .returned (.slice (some ⟨g, 0, none⟩) (Lib.compactUpTo d d.size).length cap) ∧ RowU w g rest (cmpRow d) w'

set_option maxRecDepth 100000 in
set_option maxHeartbeats 2000000 in
theorem compact32_any (g n cap : Nat) (rest : List Value) (hn : n ≤ 1099511627776) (hcap : n ≤ cap) (d : Array Int) (w : World) (h : RowU w g rest d w) (hd : d.size = n) :
    Calls Try.prog 37 #[.slice (some ⟨g, 0, none⟩) n cap] w (CmpPost w g cap rest d) := by
  have same : (∀ j, j < n → Lib.keeps d j = true) → ∀ wr, RowU w g rest d wr → CmpPost w g cap rest d (.returned (.slice (some ⟨g, 0, none⟩) n cap)) wr := by
    intro hall wr hr
    obtain ⟨e1, e2⟩ := cmpRow_same d (by rw [hd]; exact hall)
    exact ⟨by rw [e1, hd], by rw [e2]; exact hr⟩
  have HS := Lib.hid same
  clear same
  by_cases h2 : n < 2
  · have i2 : (n : Int) < 2 := by omega
    have HH := Lib.hid h
    clear h
    go_enter Try.func37, Try.ntmps37
    go_wp2
    go_ret
    exact HS.out (fun j hj => Lib.keeps_lt_one d j (by omega)) _ HH.out
  · have i2 : ¬ (n : Int) < 2 := by omega
    have icap : (n : Int) ≤ (cap : Int) := by omega
    go_enter Try.func37, Try.ntmps37
    go_wp2
    go_loopg [3] (n - 1) (fun m s3 wr => ∃ k : Nat, 1 ≤ k ∧ k ≤ n ∧ m = n - k ∧ s3 = .int .i64 k ∧ RowU w g rest d wr ∧ ∀ j, j < k → Lib.keeps d j = true)
    case atStart => exact ⟨1, Nat.le_refl _, by omega, by omega, rfl, h, Lib.keeps_lt_one d⟩
    case round =>
      clear h
      obtain ⟨k, hk1, hk, hm, rfl, hr, hall⟩ := hrel
      replace hm := Lib.hid hm
      replace hall := Lib.hid hall
      by_cases hlt : k < n
      · have c1 := hr.cell (i := k) (by omega)
        have c0 := hr.cell (i := k - 1) (by omega)
        have tn : ((k : Int) - 1).toNat = k - 1 := by omega
        have iw : IntKind.i64.wrap ((k : Int) - 1) = (k : Int) - 1 := IntWalk.i64_in _ (by omega)
        have ik : (k : Int) < (n : Int) := by omega
        have im : (0 : Int) ≤ (k : Int) - 1 := by omega
        have im2 : (k : Int) - 1 < (n : Int) := by omega
        generalize hx : d[k]! = x at c1
        generalize hy : d[k - 1]! = y at c0
        replace hx := Lib.hid hx
        replace hy := Lib.hid hy
        replace hr := Lib.hid hr
        by_cases hdup : x = y
        · subst hdup
          go_wp2_with fail
          go_region
          go_wp2
          clear c0 c1 tn iw ik im im2
          go_loopg [3, 5] (n - (k + 1)) (fun m s3 s5 wx => ∃ (kk k2 : Nat) (dk : Array Int), s3 = .int .i64 kk ∧ s5 = .int .i64 k2 ∧ 1 ≤ k2 ∧ k + k2 ≤ n ∧ m = n - (k + k2) ∧ RowU w g rest dk wx ∧ Lib.CompInv d (k + k2) kk dk)
          case atStart => exact ⟨k, 1, d, rfl, rfl, Nat.le_refl _, by omega, by omega, hr.out.drew, Lib.CompInv.start hall.out (Lib.keeps_neg (by omega) (by rw [hx.out, hy.out]))⟩
          case round =>
            clear hx hy hr hall hm
            obtain ⟨kk, k2, dk, rfl, rfl, h1, hle, hm, hr, hI⟩ := hrel
            have hkk := hI.lt
            have hds := hI.size.trans hd
            replace hm := Lib.hid hm
            by_cases hlt2 : k + k2 < n
            · have cm := hr.cell (i := k + k2) (by omega)
              have cp := hr.cell (i := k + k2 - 1) (by omega)
              have ck := hr.cell (i := kk) (by omega)
              have fk := hr.free kk
              rw [hI.high (k + k2) (by omega)] at cm
              rw [hI.high (k + k2 - 1) (by omega), show k + k2 - 1 = k + (k2 - 1) by omega] at cp
              have tn : ((k2 : Int) - 1).toNat = k2 - 1 := by omega
              have iw : IntKind.i64.wrap ((k2 : Int) - 1) = (k2 : Int) - 1 := IntWalk.i64_in _ (by omega)
              have ik : (k2 : Int) < ((n - k : Nat) : Int) := by omega
              have im : (0 : Int) ≤ (k2 : Int) - 1 := by omega
              have im2 : (k2 : Int) - 1 < ((n - k : Nat) : Int) := by omega
              have ikk : (kk : Int) < (n : Int) := by omega
              generalize hu : d[k + k2]! = u at cm
              generalize hv : d[k + (k2 - 1)]! = v at cp
              generalize dk[kk]! = old at ck
              replace hu := Lib.hid hu
              replace hv := Lib.hid (show d[k + k2 - 1]! = v by rw [show k + k2 - 1 = k + (k2 - 1) by omega]; exact hv)
              replace hr := Lib.hid hr
              replace hI := Lib.hid hI
              by_cases huv : u = v
              · subst huv
                go_wp2_with fail
                go_region
                go_wp2
                go_roundg (n - (k + (k2 + 1)))
                case measure => have := hm.out; omega
                case rel => exact ⟨kk, k2 + 1, dk, rfl, by go_num, by omega, by omega, rfl, hr.out.drew, hI.out.skip (Lib.keeps_neg (by omega) (by rw [hu.out, hv.out]))⟩
              · go_wp2_with fail
                go_region
                go_wp2
                go_roundg (n - (k + (k2 + 1)))
                case measure => have := hm.out; omega
                case rel => exact ⟨kk + 1, k2 + 1, dk.setIfInBounds kk u, by go_num, by go_num, by omega, by omega, rfl, hr.out.drew.set (by omega) u, by have := hI.out.keep (by omega) (Lib.keeps_pos (by rw [hu.out, hv.out]; exact huv)); rwa [hu.out] at this⟩
            · have hend : k + k2 = n := by omega
              have hcl : ∀ ty, (Builtin.clear_ #[29] ty #[.slice (some ⟨g, kk, none⟩) (n - kk) (cap - kk)]).run Try.prog wr = .ok (.tuple #[]) (wr.setCells g kk (List.replicate (n - kk) (u32c 0))) :=
                fun ty => Lib.run_clear_slice wr _ _ ty _ Try.underlying29 Try.zeroValue22 rfl rfl g kk _ _ (by omega) (fun j hj => by rw [hr.cell (i := kk + j) (by omega)]; rfl) (fun j hj => hr.free _)
              replace hr := Lib.hid hr
              replace hI := Lib.hid hI
              have ikn : (kk : Int) ≤ (n : Int) := by omega
              have ikc : (kk : Int) ≤ (cap : Int) := by omega
              go_wp2
              go_ret
              have hI := hI.out
              rw [hend] at hI
              have hR := RowU.sets (List.replicate (n - kk) 0) dk kk _ hr.out (by simp; omega)
              rw [List.map_replicate] at hR
              subst hd
              rw [hI.done 0] at hR
              refine ⟨by rw [hI.len]; rfl, ?_⟩
              unfold cmpRow
              rw [hI.len]
              exact hR
        · go_wp2_with fail
          go_region
          go_wp2
          go_roundg (n - (k + 1))
          case measure => have := hm.out; omega
          case rel =>
            refine ⟨k + 1, by omega, by omega, rfl, by go_num, hr.out.drew, fun j hj => ?_⟩
            by_cases e : j = k
            · subst e
              exact Lib.keeps_pos (by rw [hx.out, hy.out]; exact hdup)
            · exact hall.out j (by omega)
      · obtain rfl : k = n := by omega
        replace hr := Lib.hid hr
        go_wp2
        go_ret
        exact HS.out hall.out _ hr.out
end Go.Proofs.Ytdilbcmnfpmijaa
