/- outer.route of layer 20's known state. Conditions: the state's body and the ways lie in memory, the boundary router is reached. -/
import Derived.Test.YtiikagabdiphkaaGreatOutC
import Derived.Test.YtiikagabdiphkaaGreatOutE
namespace Go.Proofs.YtiikagabdiphkaaGreat
open Go.RowKit Go.Lo

theorem own_ne {w : World} {base : Nat} {e : TypeId} {s n : Nat} {v : Value} {xs : List Value} (h : w.ownsRow base e s v n xs) {g : Nat} {t : TypeId} {cs : Array Value} (hb : Blk w g t cs) (hne : t ≠ e) : ∀ k, v.ownBlock = some k → k ≠ g := by
  intro k hk e
  subst e
  rcases h.2 with h' | ⟨b, cap, cur, rfl, h1, h2, h3⟩
  · rw [h'.1] at hk
    simp [Value.ownBlock] at hk
  · simp only [Value.ownBlock, Option.some.injEq] at hk
    subst hk
    have h4 := hb.symm.trans h2
    simp only [Option.some.injEq, Obj.cells.injEq] at h4
    exact hne h4.2.1

/-- what stands behind route's one region that makes memory -/
def RtR (B : Nat) (w : World) (hops : List Hop) (a c : Int) (v : Value) (wx : World) : Prop :=
  ∃ g A9 c9, v = .pointer (some ⟨g, 0, none⟩) ∧ B ≤ g ∧ Blk wx g 38 #[.int .u32 335544320, .int .u8 8, .int .u32 0, .int .u8 0, .int .u8 4, .int .u32 a, .int .u32 c, .int .u32 3, .int .u32 9, .slice A9 hops.length c9] ∧ wx.ownsRow B 47 3 (.slice A9 hops.length c9) hops.length (hops.flatMap hopCells) ∧ Below B w wx

abbrev stC20 (bv : Value) : Array Value := #[.int .u16 0, .int .u8 0, .int .u8 5, .int .u32 335544320, .int .u32 5, .int .i32 1, .int .u16 40211, .int .u16 36, bv]

set_option maxRecDepth 100000 in
set_option maxHeartbeats 4000000 in
theorem route20_any (l : List WayV) (lv nv bv : Value) (B : Nat) (near : WayV) (hops : List Hop) (w : World) (hb : Sl w B 1 bv 16 (body20.map u8c)) (hl : Sl w B 10 lv l.length (l.flatMap wayL)) (hB : B ≤ w.heap.size) (hn : l.length ≤ 1000000)
    (hpick : pickP 5 l = (near, true)) (hh : Sl w B 3 (.slice near.A near.len near.cap) hops.length (hops.flatMap hopCells)) (hhn : hops.length ≤ 1000000) (hc : 0 ≤ near.n.cost ∧ near.n.cost < 4294967290) :
    Calls Tryz.prog 89 #[.agg (stC20 bv), .int .u32 1, .bool false, lv, nv] w
      fun e w' => ∃ hv, e = .returned (.tuple #[.agg (wayC ⟨335544320, 8, 0, 0, 3, near.n.area, near.n.cost + 3, 0, 9⟩ hv), .bool true]) ∧ w'.ownsRow w.heap.size 47 3 hv hops.length (hops.flatMap hopCells) ∧ Below w.heap.size w w' := by
  obtain ⟨-, bA, bc, rfl, -⟩ := id hb
  have hold : oldP 0 = false := by decide
  have hbv : bitsV 4278190080 = 8 := by decide
  have hbb : bitsB 4278190080 = true := by decide
  have hand : bits BinOp.and IntKind.u32 335544320 4278190080 = 335544320 := by decide
  have k0 : Blk ((w.alloc (.cells (stC20 (.slice bA 16 bc)) 54)).alloc (.cells (wayC zeroN (.slice none 0 0)) 38)) w.heap.size 54 (stC20 (.slice bA 16 bc)) := (Blk.new _ _ _).alloc _
  have k1 : Blk ((w.alloc (.cells (stC20 (.slice bA 16 bc)) 54)).alloc (.cells (wayC zeroN (.slice none 0 0)) 38)) (w.heap.size + 1) 38 (wayC zeroN (.slice none 0 0)) := heap_alloc2_new w _ _
  have kB : Below w.heap.size w ((w.alloc (.cells (stC20 (.slice bA 16 bc)) 54)).alloc (.cells (wayC zeroN (.slice none 0 0)) 38)) := ((Below.refl _ _).alloc (Nat.le_refl _) _).alloc (by simp) _
  dsimp only [stC20, wayC, zeroN] at k0 k1 kB ⊢
  go_enter Tryz.func89, Tryz.ntmps89
  go_upto_region 4 with fail
  generalize (w.alloc (.cells #[.int .u16 0, .int .u8 0, .int .u8 5, .int .u32 335544320, .int .u32 5, .int .i32 1, .int .u16 40211, .int .u16 36, .slice bA 16 bc] 54)).alloc (.cells #[.int .u32 0, .int .u8 0, .int .u32 0, .int .u8 0, .int .u8 0, .int .u32 0, .int .u32 0, .int .u32 0, .int .u32 0, .slice none 0 0] 38) = w1 at k0 k1 kB ⊢
  have CC := check20 B (.slice bA 16 bc) w1 (hb.below (kB.mono hB)) (Nat.le_trans hB kB.size)
  dsimp only [stateVal] at CC
  replace CC := Lib.hid CC
  have x0 := k0.cell 0
  have x1 := k0.cell 1
  have x2 := k0.cell 2
  have x3 := k0.cell 3
  have x4 := k0.cell 4
  have x5 := k0.cell 5
  have x6 := k0.cell 6
  have x7 := k0.cell 7
  have x8 := k0.cell 8
  simp only [List.getElem?_toArray, List.getElem?_cons_zero, List.getElem?_cons_succ] at x0 x1 x2 x3 x4 x5 x6 x7 x8
  go_upto_region 6 with (first
    | (go_at_call 130; refine Calls.mono (old_any 0 _) ?_; rintro x w2 ⟨rfl, rfl⟩; rw [hold])
    | (go_at_call 131; refine Calls.mono CC.out ?_; rintro x w2 ⟨rfl, hB2⟩))
  have z2 := hB2.size
  replace k0 := k0.below hB2 k0.lt
  replace k1 := k1.below hB2 k1.lt
  replace kB := kB.trans (hB2.mono kB.size)
  clear x0 x1 x2 x3 x4 x5 x6 x7 x8 hB2 CC z2
  have CD := decode20 B (.slice bA 16 bc) w2 (hb.below (kB.mono hB)) (Nat.le_trans hB kB.size)
  dsimp only [stateVal, outC] at CD
  replace CD := Lib.hid CD
  have z1 := k1.lt
  go_upto_region 7 with (first
    | (refine wpList_load_row rfl 54 (.tmp 5) rfl w.heap.size rfl 54 #[.int .u16 0, .int .u8 0, .int .u8 5, .int .u32 335544320, .int .u32 5, .int .i32 1, .int .u16 40211, .int .u16 36, .slice bA 16 bc] (0, 0) _ k0 Tryz.underlying54 rfl (by kernel_rfl) ?_)
    | (go_at_call 62; refine Calls.mono CD.out ?_; rintro x w3 ⟨rfl, hB3⟩))
  have kb : Blk (w3.alloc (.cells #[.int .u8 0, .slice none 0 0, .int .u32 4278190080, .slice none 0 0, .int .u32 3, .bool false, .int .u32 0, .int .u32 9, .slice none 0 0] 93)) w3.heap.size 93 #[.int .u8 0, .slice none 0 0, .int .u32 4278190080, .slice none 0 0, .int .u32 3, .bool false, .int .u32 0, .int .u32 9, .slice none 0 0] := Blk.new _ _ _
  replace k0 := (k0.below hB3 k0.lt).alloc (.cells #[.int .u8 0, .slice none 0 0, .int .u32 4278190080, .slice none 0 0, .int .u32 3, .bool false, .int .u32 0, .int .u32 9, .slice none 0 0] 93)
  replace k1 := (k1.below hB3 k1.lt).alloc (.cells #[.int .u8 0, .slice none 0 0, .int .u32 4278190080, .slice none 0 0, .int .u32 3, .bool false, .int .u32 0, .int .u32 9, .slice none 0 0] 93)
  replace kB := below_alloc (kB.trans (hB3.mono kB.size)) (Nat.le_refl _) (.cells #[.int .u8 0, .slice none 0 0, .int .u32 4278190080, .slice none 0 0, .int .u32 3, .bool false, .int .u32 0, .int .u32 9, .slice none 0 0] 93)
  have zb := hB3.size
  clear CD hB3
  generalize w3.alloc (.cells #[.int .u8 0, .slice none 0 0, .int .u32 4278190080, .slice none 0 0, .int .u32 3, .bool false, .int .u32 0, .int .u32 9, .slice none 0 0] 93) = w4 at k0 k1 kB kb ⊢
  generalize w3.heap.size = gb at kb zb ⊢
  have y2 := kb.cell 2
  have x3 := k0.cell 3
  simp only [List.getElem?_toArray, List.getElem?_cons_zero, List.getElem?_cons_succ] at y2 x3
  go_upto_region 9 with (go_at_call 113; refine Calls.mono (bits_any 4278190080 _) ?_; rintro x w5 ⟨rfl, rfl⟩; rw [hbv, hbb])
  have kp : Blk (w5.alloc (.cells #[.int .u32 335544320, .int .u8 8] 35)) w5.heap.size 35 #[.int .u32 335544320, .int .u8 8] := Blk.new _ _ _
  have zp := kb.lt
  replace k0 := k0.alloc (.cells #[.int .u32 335544320, .int .u8 8] 35)
  replace k1 := k1.alloc (.cells #[.int .u32 335544320, .int .u8 8] 35)
  replace kb := kb.alloc (.cells #[.int .u32 335544320, .int .u8 8] 35)
  replace kB := below_alloc kB (Nat.le_refl _) (.cells #[.int .u32 335544320, .int .u8 8] 35)
  clear y2 x3
  generalize w5.alloc (.cells #[.int .u32 335544320, .int .u8 8] 35) = w6 at k0 k1 kB kb kp ⊢
  generalize w5.heap.size = gp at kp zp ⊢
  have x4 := k0.cell 4
  simp only [List.getElem?_toArray, List.getElem?_cons_zero, List.getElem?_cons_succ] at x4
  have CT := torouter_any 5 l lv B w6 (hl.below (kB.mono hB)) (Nat.le_trans hB kB.size) hn
  rw [hpick] at CT
  obtain ⟨⟨n0, n1, n2, n3, n4, n5, n6, n7, n8⟩, nA, nl, nc⟩ := near
  obtain rfl : nl = hops.length := by
    obtain ⟨-, A9, c9, h9, -⟩ := hh
    injection h9
  dsimp only [WayV.cells, wayC] at CT hh hc ⊢
  replace CT := Lib.hid CT
  clear hpick
  go_upto_region 10 with (go_at_call 132; refine Calls.mono CT.out ?_; rintro x w7 ⟨rfl, hB7⟩)
  have kn : Blk (w7.alloc (.cells #[.int .u32 n0, .int .u8 n1, .int .u32 n2, .int .u8 n3, .int .u8 n4, .int .u32 n5, .int .u32 n6, .int .u32 n7, .int .u32 n8, .slice nA hops.length nc] 38)) w7.heap.size 38 #[.int .u32 n0, .int .u8 n1, .int .u32 n2, .int .u8 n3, .int .u8 n4, .int .u32 n5, .int .u32 n6, .int .u32 n7, .int .u32 n8, .slice nA hops.length nc] := Blk.new _ _ _
  have zn := hB7.size
  have zp2 := kp.lt
  replace k0 := (k0.below hB7 k0.lt).alloc (.cells #[.int .u32 n0, .int .u8 n1, .int .u32 n2, .int .u8 n3, .int .u8 n4, .int .u32 n5, .int .u32 n6, .int .u32 n7, .int .u32 n8, .slice nA hops.length nc] 38)
  replace k1 := (k1.below hB7 k1.lt).alloc (.cells #[.int .u32 n0, .int .u8 n1, .int .u32 n2, .int .u8 n3, .int .u8 n4, .int .u32 n5, .int .u32 n6, .int .u32 n7, .int .u32 n8, .slice nA hops.length nc] 38)
  replace kb := (kb.below hB7 kb.lt).alloc (.cells #[.int .u32 n0, .int .u8 n1, .int .u32 n2, .int .u8 n3, .int .u8 n4, .int .u32 n5, .int .u32 n6, .int .u32 n7, .int .u32 n8, .slice nA hops.length nc] 38)
  replace kp := (kp.below hB7 kp.lt).alloc (.cells #[.int .u32 n0, .int .u8 n1, .int .u32 n2, .int .u8 n3, .int .u8 n4, .int .u32 n5, .int .u32 n6, .int .u32 n7, .int .u32 n8, .slice nA hops.length nc] 38)
  replace kB := below_alloc (kB.trans (hB7.mono kB.size)) (Nat.le_refl _) (.cells #[.int .u32 n0, .int .u8 n1, .int .u32 n2, .int .u8 n3, .int .u8 n4, .int .u32 n5, .int .u32 n6, .int .u32 n7, .int .u32 n8, .slice nA hops.length nc] 38)
  clear x4 CT hB7
  generalize w7.alloc (.cells #[.int .u32 n0, .int .u8 n1, .int .u32 n2, .int .u8 n3, .int .u8 n4, .int .u32 n5, .int .u32 n6, .int .u32 n7, .int .u32 n8, .slice nA hops.length nc] 38) = w8 at k0 k1 kB kb kp kn ⊢
  generalize w7.heap.size = gn at kn zn ⊢
  have y4 := kb.cell 4
  have y6 := kb.cell 6
  simp only [List.getElem?_toArray, List.getElem?_cons_zero, List.getElem?_cons_succ] at y4 y6
  go_upto_region 18 with fail
  have zz := kn.lt
  clear y4 y6
  have hh8 := hh.below (kB.mono hB)
  have y4 := kb.cell 4
  have y7 := kb.cell 7
  have p0 := kp.cell 0
  have p1 := kp.cell 1
  have m5 := kn.cell 5
  have m6 := kn.cell 6
  have m9 := kn.cell 9
  simp only [List.getElem?_toArray, List.getElem?_cons_zero, List.getElem?_cons_succ] at y4 y7 p0 p1 m5 m6 m9
  have Y4 : ∀ W, Below (gn + 1) w8 W → W.cell? ⟨gb, 4, none⟩ = some (.int .u32 3) := fun W h => (h.cell (p := ⟨gb, 4, none⟩) (by show gb < gn + 1; omega)).trans y4
  have Y7 : ∀ W, Below (gn + 1) w8 W → W.cell? ⟨gb, 7, none⟩ = some (.int .u32 9) := fun W h => (h.cell (p := ⟨gb, 7, none⟩) (by show gb < gn + 1; omega)).trans y7
  have P0 : ∀ W, Below (gn + 1) w8 W → W.cell? ⟨gp, 0, none⟩ = some (.int .u32 335544320) := fun W h => (h.cell (p := ⟨gp, 0, none⟩) (by show gp < gn + 1; omega)).trans p0
  have P1 : ∀ W, Below (gn + 1) w8 W → W.cell? ⟨gp, 1, none⟩ = some (.int .u8 8) := fun W h => (h.cell (p := ⟨gp, 1, none⟩) (by show gp < gn + 1; omega)).trans p1
  have M5 : ∀ W, Below (gn + 1) w8 W → W.cell? ⟨gn, 5, none⟩ = some (.int .u32 n5) := fun W h => (h.cell (p := ⟨gn, 5, none⟩) (by show gn < gn + 1; omega)).trans m5
  have M6 : ∀ W, Below (gn + 1) w8 W → W.cell? ⟨gn, 6, none⟩ = some (.int .u32 n6) := fun W h => (h.cell (p := ⟨gn, 6, none⟩) (by show gn < gn + 1; omega)).trans m6
  have M9 : ∀ W, Below (gn + 1) w8 W → W.cell? ⟨gn, 9, none⟩ = some (.slice nA hops.length nc) := fun W h => (h.cell (p := ⟨gn, 9, none⟩) (by show gn < gn + 1; omega)).trans m9
  clear y4 y7 p0 p1 m5 m6 m9
  have QB := Lib.hid kB
  have Q1 := Lib.hid k1
  have Qb := Lib.hid kb
  have Qn := Lib.hid kn
  clear kB k0 k1 kb kp kn
  have hle : gn + 1 ≤ w8.heap.size := by omega
  go_cut [20] (fun v wx => RtR (gn + 1) w8 hops n5 n6 v wx)
  case first =>
    go_region_held3 (fun W => Below (gn + 1) w8 W) (first | assumption | exact (Below.refl _ _).drew | exact Below.refl _ _ | exact below_alloc hS9 hle _ | exact (below_alloc (Below.refl _ _) hle _).drew | fail)
      (first
        | (refine step_append rfl (.const (.slice none 0 0)) (.tmp 118) 36 rfl (gn + 1) hopT (.slice none 0 0) 0 [] rfl (World.ownsRow_nil _ _ _ _) B (.slice nA hops.length nc) hops.length (hops.flatMap hopCells) rfl (by first | exact hh8 | exact Sl.alloc hh8 (by omega) _) hops_oneCell (by simp only [maxLen]; omega) (by omega) (Nat.le_trans hle (Below.size (by first | assumption | exact (Below.refl _ _).drew))) ?_; intro hv w9 ho9 hg9 hob9; rw [Nat.zero_add, List.nil_append] at ho9; obtain ⟨-, A9, c9, rfl, -⟩ := Sl.of_own ho9; have hS9 : Below (gn + 1) w8 w9 := Below.trans (by first | assumption | exact (Below.refl _ _).drew) (below_of_grown hg9 (Nat.le_trans hle (Below.size (by first | assumption | exact (Below.refl _ _).drew))) (fun g hg => by simp [Value.ownBlock] at hg)); have hz9 : w8.heap.size ≤ w9.heap.size := hS9.size)
        | (refine upon10 (t := 38) (x0 := .int .u32 0) (x1 := .int .u8 0) (x2 := .int .u32 0) (x3 := .int .u8 0) (x4 := .int .u8 0) (x5 := .int .u32 0) (x6 := .int .u32 0) (x7 := .int .u32 0) (x8 := .int .u32 0) (x9 := .slice none 0 0) ?_ _ _ _ _ _ _ _ _ _ _ ?_; (focus (first | exact Blk.new _ _ _ | exact Blk.drew_ (Blk.new _ _ _) | exact ((Blk.drew_ (Blk.new w8 _ _)).same (hg9.block _ (by show w8.heap.size < (w8.alloc _).heap.size; simp) (by simp [Value.ownBlock]))))); intro W1 kW1 pW1; have SW1 : Below (gn + 1) w8 W1 := pW1.below (by assumption) (by omega); go_simp)
        | fail)
    all_goals
      go_wp2_with fail
      go_meet
      case rel =>
        refine ⟨_, A9, c9, rfl, ?_, ?_, ?_, ?_⟩
        · omega
        · first | exact kW1 | exact Blk.new _ _ _
        · first | exact own_put pW1 ho9 (by decide) | exact own_alloc ho9 _
        · first | exact SW1 | exact below_alloc hS9 hle _
  case rest =>
    obtain ⟨gw, A9, c9, rfl, hgw, kw, ho, hS⟩ := hcut
    have k1 := Q1.out.below hS (by omega)
    have kb := Qb.out.below hS (by omega)
    have kn := Qn.out.below hS (by omega)
    have hBB := QB.out.trans (hS.mono (by have := QB.out.size; omega))
    clear Y4 Y7 P0 P1 M5 M6 M9 Q1 Qb Qn QB hh8 hS
    have y4 := kb.cell 4
    have y5 := kb.cell 5
    have m6 := kn.cell 6
    have v4 := kw.cell 4
    have v6 := kw.cell 6
    have v7 := kw.cell 7
    have f4 := kw.free 4
    have f6 := kw.free 6
    have f7 := kw.free 7
    simp only [List.getElem?_toArray, List.getElem?_cons_zero, List.getElem?_cons_succ] at y4 y5 m6 v4 v6 v7
    have e1 : IntKind.u64.wrap n6 = n6 := by rw [IntKind.wrap_u64]; omega
    have e3 : IntKind.u64.wrap (n6 + 3) = n6 + 3 := by rw [IntKind.wrap_u64]; omega
    have e4 : IntKind.u32.wrap (n6 + 3) = n6 + 3 := by show (n6 + 3) % 4294967296 = _; omega
    have e5 : decide (n6 + 3 < 4294967296) = true := decide_eq_true (by omega)
    have e6 : n6 + 3 < 4294967296 := by omega
    have kw2 := ((kw.set_ 4 (.int .u8 3)).set_ 7 (.int .u32 0)).set_ 6 (.int .u32 (n6 + 3))
    simp only [List.setIfInBounds_toArray, List.set_cons_zero, List.set_cons_succ] at kw2
    have k12 := ((k1.far (p := ⟨gw, 4, none⟩) (by simp; omega) (.int .u8 3)).far (p := ⟨gw, 7, none⟩) (by simp; omega) (.int .u32 0)).far (p := ⟨gw, 6, none⟩) (by simp; omega) (.int .u32 (n6 + 3))
    have hB2 := ((hBB.setCell (p := ⟨gw, 4, none⟩) (by simp; omega) (.int .u8 3)).setCell (p := ⟨gw, 7, none⟩) (by simp; omega) (.int .u32 0)).setCell (p := ⟨gw, 6, none⟩) (by simp; omega) (.int .u32 (n6 + 3))
    have hne := own_ne ho kw (by decide)
    have ho2 : (((wc.setCell ⟨gw, 4, none⟩ (.int .u8 3)).setCell ⟨gw, 7, none⟩ (.int .u32 0)).setCell ⟨gw, 6, none⟩ (.int .u32 (n6 + 3))).ownsRow (gn + 1) 47 3 (.slice A9 hops.length c9) hops.length (hops.flatMap hopCells) := own_same ho fun g hg => (Below.heap_setCell _ _ _ g (hne g hg)).trans ((Below.heap_setCell _ _ _ g (hne g hg)).trans (Below.heap_setCell _ _ _ g (hne g hg)))
    replace hB2 := Lib.hid hB2
    replace ho2 := Lib.hid ho2
    replace kw2 := Lib.hid kw2
    replace k12 := Lib.hid k12
    clear ho k1 kw hBB kn
    go_upto_region 23 with fail
    replace hB2 := hB2.out
    replace ho2 := ho2.out
    replace kw2 := kw2.out
    replace k12 := k12.out
    clear y4 y5 m6 v4 v6 v7 f4 f6 f7 kb
    generalize ((wc.setCell ⟨gw, 4, none⟩ (.int .u8 3)).setCell ⟨gw, 7, none⟩ (.int .u32 0)).setCell ⟨gw, 6, none⟩ (.int .u32 (n6 + 3)) = w10 at hB2 ho2 kw2 k12 ⊢
    go_wp2_with (first
      | (refine wpList_load_row rfl 38 (.tmp 20) rfl gw rfl 38 #[.int .u32 335544320, .int .u8 8, .int .u32 0, .int .u8 0, .int .u8 3, .int .u32 n5, .int .u32 (n6 + 3), .int .u32 0, .int .u32 9, .slice A9 hops.length c9] (0, 0) _ kw2 Tryz.underlying38 rfl (by kernel_rfl) ?_)
      | (refine wpList_store_row rfl 38 (.tmp 10) (.tmp 136) rfl (w.heap.size + 1) #[.int .u32 335544320, .int .u8 8, .int .u32 0, .int .u8 0, .int .u8 3, .int .u32 n5, .int .u32 (n6 + 3), .int .u32 0, .int .u32 9, .slice A9 hops.length c9] rfl rfl 38 #[.int .u32 0, .int .u8 0, .int .u32 0, .int .u8 0, .int .u8 0, .int .u32 0, .int .u32 0, .int .u32 0, .int .u32 0, .slice none 0 0] k12 (by kernel_rfl) rfl (by simp [Value.oneCell']) ?_))
    refine bodyPost_ret (results_cell_tmp_row rfl _ _ (w.heap.size + 1) 38 #[.int .u32 335544320, .int .u8 8, .int .u32 0, .int .u8 0, .int .u8 3, .int .u32 n5, .int .u32 (n6 + 3), .int .u32 0, .int .u32 9, .slice A9 hops.length c9] (0, 0) _ rfl (blk_setRow k12) Tryz.underlying38 rfl (by kernel_rfl)) rfl ?_
    refine ⟨.slice A9 hops.length c9, rfl, ?_, below_setRow hB2 (by omega) _⟩
    exact own_less (own_same ho2 fun g hg => setRow_other _ _ g _ (by have := (ho2.lt g hg).1; omega)) (by omega)
end Go.Proofs.YtiikagabdiphkaaGreat
