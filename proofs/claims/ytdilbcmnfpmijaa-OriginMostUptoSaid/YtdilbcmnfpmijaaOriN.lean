/- OriginMost's walk. Conditions: the ports lie in memory, and their sizes are below 2^40. -/
import Derived.Test.YtdilbcmnfpmijaaOriM
namespace Go.Proofs.Ytdilbcmnfpmijaa
open Go.RowKit Go.Lo

theorem neq_link (a : OLink) (w : World) : (binOp .neq 42 (.agg #[.int .u32 a.1, .int .u32 a.2.1, .int .u8 a.2.2.1, .int .u16 a.2.2.2]) (.agg #[.int .u32 a.1, .int .u32 a.2.1, .int .u8 a.2.2.1, .int .u16 a.2.2.2])).run Try.prog w = .ok (.bool false) w := by
  rw [run_neq_struct, run_equalIn_agg _ _ _ _ _ (by kernel_rfl) (by kernel_rfl)]
  go_simp

theorem field_body (x0 x1 x2 x3 x4 x5 x6 x7 x8 x9 x10 x11 : Value) (W : World) : (Instr.field 34 (.agg #[x0, x1, x2, x3, x4, x5, x6, x7, x8, x9, x10, x11]) 3).run Try.prog W = .ok (.agg #[x3, x4, x5, x6, x7, x8, x9, x10, x11]) W := by kernel_rfl
theorem field_links (x3 x4 x5 x6 x7 x8 x9 x10 x11 : Value) (W : World) : (Instr.field 32 (.agg #[x3, x4, x5, x6, x7, x8, x9, x10, x11]) 1).run Try.prog W = .ok x4 W := by kernel_rfl

theorem PortsAt.at_ {w W : World} {v : Value} {ps : List OPort} (h : PortsAt w w.heap.size v ps) (hb : Below w.heap.size w W) : PortsAt W W.heap.size v ps :=
  have h' := h.below hb
  ⟨h'.1.more hb.size, fun p hp => ⟨(h'.2 p hp).1.more hb.size, (h'.2 p hp).2⟩⟩
theorem routerL_same {ps qs : List OPort} (h : qs.map strip = ps.map strip) (most : Bool) : routerL qs most = routerL ps most := by
  rw [← routerL_strip qs, h, routerL_strip]
theorem same_len {ps qs : List OPort} (h : qs.map strip = ps.map strip) : qs.length = ps.length := by
  have := congrArg List.length h
  simpa using this

/-- the two views behind their making -/
def MostR (B : Nat) (W0 : World) (cs : Array Value) (v3 v4 : Value) (wx : World) : Prop :=
  ∃ b3 b4, v3 = .pointer (some ⟨b3, 0, none⟩) ∧ v4 = .pointer (some ⟨b4, 0, none⟩) ∧ b3 ≠ b4 ∧ B ≤ b3 ∧ B ≤ b4 ∧ Blk wx b3 25 cs ∧ Blk wx b4 25 cs ∧ Below B W0 wx

set_option maxRecDepth 100000 in
set_option maxHeartbeats 2000000 in
theorem originMost_any (v : OView) (pv : Value) (ps : List OPort) (w : World) (hg : PortsIn w w.heap.size pv ps) (hr : ∀ p ∈ ps, 0 ≤ p.netB ∧ p.netB ≤ 255 ∧ 0 ≤ p.kind) (hn : ps.length ≤ 2 ^ 40) (hs : fullN ps ≤ 2 ^ 40) :
    Calls Try.prog 3 #[viewVal v pv] w fun e w' => e = .returned (.bool true) ∧ Below w.heap.size w w' := by
  obtain ⟨router, border, outer, ends, always, most⟩ := v
  have hgs := hg.1
  obtain ⟨_, A, c, rfl, _, _, _⟩ := hgs
  have k0 : Blk (w.alloc (.cells #[.int .u32 router, .bool border, .bool outer, .bool ends, .bool always, .bool most, .slice A ps.length c] 25)) w.heap.size 25 #[.int .u32 router, .bool border, .bool outer, .bool ends, .bool always, .bool most, .slice A ps.length c] := Blk.new _ _ _
  have hB0 : Below w.heap.size w (w.alloc (.cells #[.int .u32 router, .bool border, .bool outer, .bool ends, .bool always, .bool most, .slice A ps.length c] 25)) := (Below.refl _ _).alloc (Nat.le_refl _) _
  have kz : ((w.alloc (.cells #[.int .u32 router, .bool border, .bool outer, .bool ends, .bool always, .bool most, .slice A ps.length c] 25)) : World).heap.size = w.heap.size + 1 := by simp
  have CB := big22_any ⟨router, border, outer, ends, always, most⟩ (.slice A ps.length c) ps (w.alloc (.cells #[.int .u32 router, .bool border, .bool outer, .bool ends, .bool always, .bool most, .slice A ps.length c] 25)) ((hg.below hB0).imp (fun h => h.more hB0.size) (fun h p hp => (h p hp).more hB0.size)) hn hs
  replace CB := Lib.hid CB
  go_enter Try.func3, Try.ntmps3
  go_upto_if 10 with (go_at_call 10; refine Calls.mono CB.out ?_; rintro e w1 ⟨b, rfl, hbig, hB1⟩)
  clear CB
  generalize (w.alloc (.cells #[.int .u32 router, .bool border, .bool outer, .bool ends, .bool always, .bool most, .slice A ps.length c] 25)) = w0 at *
  have S1 : Below w.heap.size w w1 := hB0.trans (hB1.mono hB0.size)
  have K1 := Blk.call hB1 k0
  have hz1 := hB1.size
  cases b with
  | true =>
    go_wp2_with (go_at_call 11; refine Calls.mono (works22_any _) ?_; rintro e w2 ⟨rfl, hB2⟩)
    go_ret
    exact ⟨rfl, below_call S1 hB2 (Nat.le_refl _)⟩
  | false =>
    obtain ⟨hn60, hs400⟩ := hbig rfl
    clear hbig
    have hPA : PortsAt w w.heap.size (.slice A ps.length c) ps := ⟨hg.1, fun p hp => ⟨hg.2 p hp, Nat.le_trans (fullN_mem hp) (by omega), hr p hp⟩⟩
    replace hPA := Lib.hid hPA
    clear hg hr
    go_upto_region 3 with fail
    have p0 : ∀ W, Below (w.heap.size + 1) w1 W → W.cell? ⟨w.heap.size, 0, none⟩ = some (.int .u32 router) := fun W h => (h.cell (p := ⟨w.heap.size, 0, none⟩) (by show w.heap.size < w.heap.size + 1; omega)).trans (K1.cell 0)
    have p1 : ∀ W, Below (w.heap.size + 1) w1 W → W.cell? ⟨w.heap.size, 1, none⟩ = some (.bool border) := fun W h => (h.cell (p := ⟨w.heap.size, 1, none⟩) (by show w.heap.size < w.heap.size + 1; omega)).trans (K1.cell 1)
    have p2 : ∀ W, Below (w.heap.size + 1) w1 W → W.cell? ⟨w.heap.size, 2, none⟩ = some (.bool outer) := fun W h => (h.cell (p := ⟨w.heap.size, 2, none⟩) (by show w.heap.size < w.heap.size + 1; omega)).trans (K1.cell 2)
    have p3 : ∀ W, Below (w.heap.size + 1) w1 W → W.cell? ⟨w.heap.size, 3, none⟩ = some (.bool ends) := fun W h => (h.cell (p := ⟨w.heap.size, 3, none⟩) (by show w.heap.size < w.heap.size + 1; omega)).trans (K1.cell 3)
    have p4 : ∀ W, Below (w.heap.size + 1) w1 W → W.cell? ⟨w.heap.size, 4, none⟩ = some (.bool always) := fun W h => (h.cell (p := ⟨w.heap.size, 4, none⟩) (by show w.heap.size < w.heap.size + 1; omega)).trans (K1.cell 4)
    have p5 : ∀ W, Below (w.heap.size + 1) w1 W → W.cell? ⟨w.heap.size, 5, none⟩ = some (.bool most) := fun W h => (h.cell (p := ⟨w.heap.size, 5, none⟩) (by show w.heap.size < w.heap.size + 1; omega)).trans (K1.cell 5)
    have p6 : ∀ W, Below (w.heap.size + 1) w1 W → W.cell? ⟨w.heap.size, 6, none⟩ = some (.slice A ps.length c) := fun W h => (h.cell (p := ⟨w.heap.size, 6, none⟩) (by show w.heap.size < w.heap.size + 1; omega)).trans (K1.cell 6)
    have hBW : w.heap.size + 1 ≤ w1.heap.size := by omega
    replace kz := Lib.hid kz
    go_cut [3, 4] (fun v3 v4 wx => MostR (w.heap.size + 1) w1 #[.int .u32 router, .bool border, .bool outer, .bool ends, .bool always, .bool most, .slice A ps.length c] v3 v4 wx)
    case first =>
      go_region_held3 (fun W => Below (w.heap.size + 1) w1 W) (first | assumption | exact (Below.refl _ _).drew | (refine Below.drew ?_; refine below_alloc ?_ hBW _; first | exact Below.refl _ _ | (refine below_alloc ?_ hBW _; exact Below.refl _ _)) | fail) (fail)
      all_goals
        go_wp2_with fail
        go_meet
        case rel =>
          refine ⟨_, _, rfl, rfl, by omega, by omega, by omega, ?_, ?_, (below_alloc (below_alloc (Below.refl _ _) hBW _) hBW _).drew⟩
          · first
              | exact Blk.drew_ ((Blk.new _ _ _).alloc _)
              | exact Blk.drew_ (heap_alloc2_new w1 _ _)
          · first
              | exact Blk.drew_ ((Blk.new _ _ _).alloc _)
              | exact Blk.drew_ (heap_alloc2_new w1 _ _)
    case rest =>
      obtain ⟨b3, b4, rfl, rfl, hne, hg3, hg4, hk3, hk4, hS⟩ := hcut
      clear p0 p1 p2 p3 p4 p5 p6 K1
      have P3 := (Put.refl_ hk3).cell_ 5 (.bool false)
      have k4' := Blk.put P3 (Ne.symm hne) hk4
      have P4 := (Put.refl_ k4').cell_ 5 (.bool true)
      have K3 := Blk.put P4 hne (hk3.set_ 5 (.bool false))
      have K4 := k4'.set_ 5 (.bool true)
      have S6 := P4.below (P3.below hS hg3) hg4
      have x3c := hk3.cell 5
      have x3f := hk3.free 5
      have x4c := k4'.cell 5
      have x4f := k4'.free 5
      simp only [List.setIfInBounds_toArray, List.set_cons_zero, List.set_cons_succ, List.getElem?_toArray, List.getElem?_cons_zero, List.getElem?_cons_succ] at K3 K4 x3c x4c
      replace K3 := Lib.hid K3
      replace K4 := Lib.hid K4
      replace S6 := Lib.hid (S1.trans (S6.mono (by omega)))
      clear P3 P4 hk3 hk4 k4' hS
      go_upto_region 6 with fail
      clear x3c x3f x4c x4f
      generalize ((wc.setCell ⟨b3, 5, none⟩ (.bool false)).setCell ⟨b4, 5, none⟩ (.bool true)) = w6 at *
      obtain ⟨L, hL⟩ : ∃ L, L = routerL ps false := ⟨_, rfl⟩
      replace hL := Lib.hid hL
      have hF1 := field_body
      have hF2 := field_links
      have CV := view22_any ⟨router, border, outer, ends, always, false⟩ (.slice A ps.length c) ps w6 (hPA.out.at_ S6.out) (by omega)
      replace CV := Lib.hid CV
      have z0 := K3.out.cell 0
      have z1 := K3.out.cell 1
      have z2 := K3.out.cell 2
      have z3 := K3.out.cell 3
      have z4 := K3.out.cell 4
      have z5 := K3.out.cell 5
      have z6 := K3.out.cell 6
      simp only [List.getElem?_toArray, List.getElem?_cons_zero, List.getElem?_cons_succ] at z0 z1 z2 z3 z4 z5 z6
      go_upto_region 7 with (first
        | (go_at_call 13; refine Calls.mono CV.out ?_; rintro e w7 ⟨pv1, qs1, rfl, hq1, hm1, hB7⟩)
        | (go_at_call 12; refine Calls.mono (router_any ⟨router, border, outer, ends, always, false⟩ pv1 qs1 0 w7 hq1 (by rw [same_len hm1]; omega)) ?_; rintro e w8 ⟨lv1, rfl, hl1, hB8⟩; rw [routerL_same hm1, ← hL.out] at hl1; obtain ⟨_, AX, cX, rfl, _⟩ := Sl.of_own hl1; replace hl1 := Lib.hid hl1; dsimp only))
      clear CV z0 z1 z2 z3 z4 z5 z6 hq1
      replace K4 := Lib.hid (Blk.call hB8 (Blk.call hB7 K4.out))
      replace S6 := Lib.hid (below_call (below_call S6.out hB7 (Nat.le_refl _)) hB8 (Nat.le_refl _))
      clear hB7 hB8 K3 hm1
      have CV := view22_any ⟨router, border, outer, ends, always, true⟩ (.slice A ps.length c) ps w8 (hPA.out.at_ S6.out) (by omega)
      replace CV := Lib.hid CV
      have z0 := K4.out.cell 0
      have z1 := K4.out.cell 1
      have z2 := K4.out.cell 2
      have z3 := K4.out.cell 3
      have z4 := K4.out.cell 4
      have z5 := K4.out.cell 5
      have z6 := K4.out.cell 6
      simp only [List.getElem?_toArray, List.getElem?_cons_zero, List.getElem?_cons_succ] at z0 z1 z2 z3 z4 z5 z6
      go_upto_region 8 with (first
        | (go_at_call 13; refine Calls.mono CV.out ?_; rintro e w9 ⟨pv2, qs2, rfl, hq2, hm2, hB9⟩)
        | (go_at_call 12; refine Calls.mono (router_any ⟨router, border, outer, ends, always, true⟩ pv2 qs2 0 w9 hq2 (by rw [same_len hm2]; omega)) ?_; rintro e w10 ⟨lv2, rfl, hl2, hB10⟩; rw [routerL_same hm2, routerL_cap, ← hL.out, List.length_map] at hl2; obtain ⟨_, AY, cY, rfl, _⟩ := Sl.of_own hl2; replace hl2 := Lib.hid hl2; dsimp only))
      clear CV z0 z1 z2 z3 z4 z5 z6 hq2 hm2 K4 hF1 hF2
      have hX := Sl.of_own (own_below (own_below hl1.out hB9) hB10)
      have hY := Sl.of_own hl2.out
      have S10 := below_call (below_call S6.out hB9 (Nat.le_refl _)) hB10 (Nat.le_refl _)
      have hLn : L.length ≤ 60 * 1000001 := by
        have := routerL_len (ps := ps) (fun p hp' => (hPA.out.2 p hp').2.1) false ps.length (Nat.le_refl _)
        rw [List.take_length, ← hL.out] at this
        exact Nat.le_trans this (Nat.mul_le_mul_right _ hn60)
      replace hX := Lib.hid hX
      replace hY := Lib.hid hY
      clear hl1 hl2 hB9 hB10 S6 hL
      go_wp2_with fail
      go_loopg [7] L.length (fun m i wr => ∃ k : Nat, k ≤ L.length ∧ m = L.length - k ∧ i = .int .i64 k ∧ Below w10.heap.size w10 wr)
      case atStart => exact ⟨0, Nat.zero_le _, rfl, rfl, Below.refl _ _⟩
      case round =>
        obtain ⟨k, hk, rfl, rfl, hbk⟩ := hrel
        obtain ⟨w11, rfl⟩ : ∃ x : World, x = wr := ⟨_, rfl⟩
        have hsk := hbk.size
        by_cases hkl : k < L.length
        · have hkl' : k < (L.map capL).length := by rw [List.length_map]; exact hkl
          have hY' := hY.out
          rw [← List.length_map (f := capL)] at hY'
          obtain ⟨bx, ox, rfl, hbx, hrx⟩ := Sl.row linkCells_len (hX.out.below hbk) hkl
          obtain ⟨byy, oy, rfl, hby, hry⟩ := Sl.row linkCells_len (hY'.below hbk) hkl'
          rw [List.getElem_map] at hry
          clear hX hY hY'
          obtain ⟨a, ha⟩ : ∃ a, a = L[k] := ⟨_, rfl⟩
          rw [← ha] at hrx hry
          clear ha
          obtain ⟨a1, a2, a3, a4⟩ := a
          have x0 := hrx 0 _ rfl
          have x1 := hrx 1 _ rfl
          have x2 := hrx 2 _ rfl
          have x3 := hrx 3 _ rfl
          simp only [Nat.add_zero] at x0
          clear hrx
          by_cases h3 : a3 = 3
          · subst h3
            rw [show capL (a1, a2, 3, a4) = (a1, a2, 3, a4) from if_pos rfl] at hry
            have y0 := hry 0 _ rfl
            have y1 := hry 1 _ rfl
            have y2 := hry 2 _ rfl
            have y3 := hry 3 _ rfl
            simp only [Nat.add_zero] at y0
            clear hry
            have hA : Below w11.heap.size w11 (w11.alloc (.cells #[.int .u32 a1, .int .u32 a2, .int .u8 3, .int .u16 a4] 42)) := (Below.refl _ _).alloc (Nat.le_refl _) _
            have Y0 := (hA.cell (show byy < w11.heap.size by omega)).trans y0
            have Y1 := (hA.cell (show byy < w11.heap.size by omega)).trans y1
            have Y2 := (hA.cell (show byy < w11.heap.size by omega)).trans y2
            have Y3 := (hA.cell (show byy < w11.heap.size by omega)).trans y3
            have C := Blk.new w11 42 #[.int .u32 a1, .int .u32 a2, .int .u8 3, .int .u16 a4]
            have C0 := C.cell 0
            have C1 := C.cell 1
            have C2 := C.cell 2
            have C3 := C.cell 3
            simp only [List.getElem?_toArray, List.getElem?_cons_zero, List.getElem?_cons_succ] at C0 C1 C2 C3
            clear C y0 y1 y2 y3
            have hE := fun W => neq_link (a1, a2, 3, a4) W
            simp only at hE
            go_upto_region 16 with fail
            generalize (w11.alloc (.cells #[.int .u32 a1, .int .u32 a2, .int .u8 3, .int .u16 a4] 42)) = w12 at *
            go_quiet (fail)
            go_wp2
            go_roundg (L.length - (k + 1))
            case measure => omega
            case rel => exact ⟨k + 1, by omega, rfl, by go_num, below_drewN (below_call hbk hA (Nat.le_refl _)) nq⟩
          · have h3' : (a3 != 3) = true := by simpa using h3
            rw [show capL (a1, a2, a3, a4) = (a1, a2, a3, 65535) from if_neg h3] at hry
            have y0 := hry 0 _ rfl
            have y1 := hry 1 _ rfl
            have y2 := hry 2 _ rfl
            have y3 := hry 3 _ rfl
            simp only [Nat.add_zero] at y0
            clear hry
            have hA : Below w11.heap.size w11 (w11.alloc (.cells #[.int .u32 a1, .int .u32 a2, .int .u8 a3, .int .u16 65535] 42)) := (Below.refl _ _).alloc (Nat.le_refl _) _
            have Y0 := (hA.cell (show byy < w11.heap.size by omega)).trans y0
            have Y1 := (hA.cell (show byy < w11.heap.size by omega)).trans y1
            have Y2 := (hA.cell (show byy < w11.heap.size by omega)).trans y2
            have Y3 := (hA.cell (show byy < w11.heap.size by omega)).trans y3
            have C := Blk.new w11 42 #[.int .u32 a1, .int .u32 a2, .int .u8 a3, .int .u16 65535]
            have C0 := C.cell 0
            have C1 := C.cell 1
            have C2 := C.cell 2
            have C3 := C.cell 3
            simp only [List.getElem?_toArray, List.getElem?_cons_zero, List.getElem?_cons_succ] at C0 C1 C2 C3
            clear C y0 y1 y2 y3
            have hE := fun W => neq_link (a1, a2, a3, 65535) W
            simp only at hE
            go_upto_region 16 with fail
            generalize (w11.alloc (.cells #[.int .u32 a1, .int .u32 a2, .int .u8 a3, .int .u16 65535] 42)) = w12 at *
            go_quiet (fail)
            go_wp2
            go_roundg (L.length - (k + 1))
            case measure => omega
            case rel => exact ⟨k + 1, by omega, rfl, by go_num, below_drewN (below_call hbk hA (Nat.le_refl _)) nq⟩
        · obtain rfl : k = L.length := by omega
          clear hX hY
          go_wp2_with (go_at_call 11; refine Calls.mono (works22_any _) ?_; rintro e w12 ⟨rfl, hB12⟩)
          go_ret
          exact ⟨rfl, below_call (below_call S10 hbk (Nat.le_refl _)) hB12 (Nat.le_refl _)⟩
end Go.Proofs.Ytdilbcmnfpmijaa
