/- BetweenOwn's walk: a router does not listen to itself. Conditions: the states, their bodies, the ways and their hops lie in memory. -/
import Derived.Test.YtiikagabdiphkaaGreatGuaN
namespace Go.Proofs.YtiikagabdiphkaaGreat
open Go.RowKit Go.Lo

/-- what the operations of the last region leave -/
def OwnV (g : Nat) (sA : Option Addr) (sn sc : Nat) (area self : Int) (lA : Option Addr) (ln lc : Nat) (R : List WayG) : Nat → Value → Value → World → Prop
  | 0, v, _, _ => v = .slice sA sn sc
  | 1, v, _, _ => v = .pointer (some ⟨g, 1, none⟩)
  | 2, v, _, _ => v = .int .u32 area
  | 3, v, _, _ => v = .pointer (some ⟨g, 2, none⟩)
  | 4, v, _, _ => v = .int .u32 self
  | 5, v, _, _ => v = .pointer (some ⟨g, 3, none⟩)
  | 6, v, _, _ => v = .slice lA ln lc
  | 7, v, _, W => ∃ (A : Option Addr) (c : Nat) (xs : List WayY), v = .slice A xs.length c ∧ WaysIn W W.heap.size (.slice A xs.length c) R (xs.map (·.1))
  | 8, v, _, _ => ∃ a b c d, v = .tuple #[.slice a 0 b, .slice c 0 d]
  | 9, v, _, _ => ∃ a b c d, v = .tuple #[.slice a 0 b, .slice c 0 d]
  | 10, v, _, _ => ∃ a b, v = .slice a 0 b
  | 11, v, _, _ => ∃ a b, v = .slice a 0 b
  | 12, v, _, _ => ∃ a b, v = .slice a 0 b
  | 13, v, _, _ => ∃ a b, v = .slice a 0 b
  | _, _, _, _ => True
theorem OwnV.call {g : Nat} {sA : Option Addr} {sn sc : Nat} {area self : Int} {lA : Option Addr} {ln lc : Nat} {R : List WayG} : ∀ (i : Nat) (v u : Value) (W W' : World), Below W.heap.size W W' → OwnV g sA sn sc area self lA ln lc R i v u W → OwnV g sA sn sc area self lA ln lc R i v u W'
  | 0, _, _, _, _, _, h => h
  | 1, _, _, _, _, _, h => h
  | 2, _, _, _, _, _, h => h
  | 3, _, _, _, _, _, h => h
  | 4, _, _, _, _, _, h => h
  | 5, _, _, _, _, _, h => h
  | 6, _, _, _, _, _, h => h
  | 7, _, _, _, _, hB, ⟨A, c, xs, h1, h2⟩ => ⟨A, c, xs, h1, (h2.below hB).more hB.size⟩
  | 8, _, _, _, _, _, h => h
  | 9, _, _, _, _, _, h => h
  | 10, _, _, _, _, _, h => h
  | 11, _, _, _, _, _, h => h
  | 12, _, _, _, _, _, h => h
  | 13, _, _, _, _, _, h => h
  | _ + 14, _, _, _, _, _, _ => trivial

set_option maxRecDepth 100000 in
set_option maxHeartbeats 4000000 in
theorem betweenOwn_any (S : List StG) (ls : List StV) (sv : Value) (area self : Int) (R : List WayG) (lw : List WayV) (lv : Value) (w : World) (hS : StatesIn w w.heap.size sv S ls) (hSo : ArgS S) (hls : ls.length ≤ 2000000) (hself : 0 ≤ self ∧ self < 4294967296) (hW : WaysIn w w.heap.size lv R lw) (hRo : ArgR R) (hlw : lw.length ≤ 2000000) :
    Calls Tryz.prog 5 #[.agg #[sv, .int .u32 area, .int .u32 self, lv]] w fun e w' => e = .returned (.bool true) ∧ Below w.heap.size w w' := by
  obtain ⟨-, sA, sc, rfl, -⟩ := id hS.sl
  obtain ⟨-, lA, lc, rfl, -⟩ := id hW.sl
  have hB0 : Below w.heap.size w (w.alloc (.cells #[.slice sA ls.length sc, .int .u32 area, .int .u32 self, .slice lA lw.length lc] 26)) := Below.alloc (Below.refl _ _) (Nat.le_refl _) _
  have kc := Blk.new w 26 #[.slice sA ls.length sc, .int .u32 area, .int .u32 self, .slice lA lw.length lc]
  go_enter Tryz.func5, Tryz.ntmps5
  go_upto_region 1 with fail
  generalize w.alloc (.cells #[.slice sA ls.length sc, .int .u32 area, .int .u32 self, .slice lA lw.length lc] 26) = w0 at *
  have hz0 := hB0.size
  have hS0 := hS.below hB0
  have hW0 := hW.below hB0
  have x0 := kc.cell 0
  have x3 := kc.cell 3
  simp only [List.getElem?_toArray, List.getElem?_cons_zero, List.getElem?_cons_succ] at x0 x3
  have CH := Lib.hid (heavy19_any ls _ w.heap.size w0 hS0.sl hls (hS0.lens fun s hs => (hSo s hs).2.1))
  have CB := Lib.hid (big19_any lw _ w.heap.size w0 hW0.sl hz0 (by omega) (hW0.bigs hRo))
  go_cut [15] (fun v wx => GuardR ls lw w0 v wx)
  case first =>
    go_wp2_with (first
      | (go_at_call 14; refine Calls.mono CH.out ?_; rintro e w1 ⟨q1, rfl, rfl, hq1⟩; cases q1)
      | (go_at_call 15; refine Calls.mono CB.out ?_; rintro e w2 ⟨q2, rfl, hq2, hB2⟩)
      | fail)
    · go_meet
      case rel => exact ⟨q2, rfl, fun h => ⟨hq1 (by first | rfl | trivial), hq2 h⟩, hB2⟩
    · go_meet
      case rel => exact ⟨true, rfl, fun h => (by cases h), Below.refl _ _⟩
  case rest =>
    obtain ⟨q, rfl, hq, hBc⟩ := hcut
    have hBw := hB0.trans (hBc.mono hz0)
    cases q
    · obtain ⟨⟨h60, h8⟩, hw60, hw4⟩ := hq rfl
      have kc1 := Blk.call hBc kc
      clear CH CB x0 x3 hq
      have hzc := hBc.size
      replace hS0 := Lib.hid hS0
      replace hW0 := Lib.hid hW0
      go_wp2_with fail
      go_loopg [4, 3] ls.length (fun c i v wr => ∃ (k : Nat) (ys : List StY), k ≤ ls.length ∧ c = ls.length - k ∧ i = .int .i64 k ∧ ys.length = k ∧ (∀ s ∈ sOf ys, s.1.adv = self ∧ StOk s) ∧ StR wc ys v wr)
      case atStart => exact ⟨0, [], Nat.zero_le _, rfl, rfl, rfl, fun s hs => (by cases hs), ⟨World.ownsRow_nil _ _ _ _, fun _ h => (by cases h), Below.refl _ _⟩⟩
      case round =>
        obtain ⟨k, ys, hk, rfl, rfl, hyk, hya, hI⟩ := hrel
        obtain ⟨w1, rfl⟩ : ∃ x : World, x = wr := ⟨_, rfl⟩
        have hz1 := hI.below.size
        have kc2 := kc1.below hI.below kc1.lt
        have c0 := kc2.cell 0
        have c2 := kc2.cell 2
        simp only [List.getElem?_toArray, List.getElem?_cons_zero, List.getElem?_cons_succ] at c0 c2
        by_cases hkl : k < ls.length
        · have hkS : k < S.length := by rw [← hS.len]; exact hkl
          have hS1 := hS.below (hBw.trans (hI.below.mono hBw.size))
          obtain ⟨b, off, hwA, hb0, hrow⟩ := Sl.row stL_len hS1.sl hkl
          subst hwA
          have hbd := hS1.bodies k hkl hkS
          have hok := hSo _ (List.getElem_mem hkS)
          have hhd : ls[k].h = S[k].1 := by
            have := congrArg (fun z => z[k]?) hS1.map
            simpa [hkl, hkS] using this
          have hxl := h8 _ (List.getElem_mem hkl)
          obtain ⟨x, hx⟩ : ∃ x, x = ls[k] := ⟨_, rfl⟩
          rw [← hx] at hrow hbd hhd hxl
          clear hx
          generalize S[k] = s at *
          obtain ⟨hd, body⟩ := s
          obtain ⟨⟨h0, h1, h2, h3, h4, h5, h6, h7⟩, xA, xl, xc⟩ := x
          simp only at hhd
          subst hhd
          obtain rfl : xl = body.length := sl_len hbd
          replace hxl : body.length ≤ 8192 := hxl
          have q0 : w1.cell? ⟨b, off + k * 9, none⟩ = some (.int .u16 h0) := hrow 0 _ rfl
          have q1 : w1.cell? ⟨b, off + k * 9 + 1, none⟩ = some (.int .u8 h1) := hrow 1 _ rfl
          have q2 : w1.cell? ⟨b, off + k * 9 + 2, none⟩ = some (.int .u8 h2) := hrow 2 _ rfl
          have q3 : w1.cell? ⟨b, off + k * 9 + 3, none⟩ = some (.int .u32 h3) := hrow 3 _ rfl
          have q4 : w1.cell? ⟨b, off + k * 9 + 4, none⟩ = some (.int .u32 h4) := hrow 4 _ rfl
          have q5 : w1.cell? ⟨b, off + k * 9 + 5, none⟩ = some (.int .i32 h5) := hrow 5 _ rfl
          have q6 : w1.cell? ⟨b, off + k * 9 + 6, none⟩ = some (.int .u16 h6) := hrow 6 _ rfl
          have q7 : w1.cell? ⟨b, off + k * 9 + 7, none⟩ = some (.int .u16 h7) := hrow 7 _ rfl
          have q8 : w1.cell? ⟨b, off + k * 9 + 8, none⟩ = some (.slice xA body.length xc) := hrow 8 _ rfl
          have ik : (k : Int) < (ls.length : Int) := by omega
          have CW := copystate_any ⟨h0, h1, h2, h3, h4, h5, h6, h7⟩ w.heap.size (.slice xA body.length xc) body w1 hbd (by have := hBw.size; omega) (by omega)
          dsimp only [stateVal] at CW
          replace CW := Lib.hid CW
          clear hrow hS1
          go_upto_region 8 with (first
            | (go_at_call 21; refine Calls.mono CW.out ?_; rintro e w4 ⟨vv, rfl, hoy, hBy⟩; obtain ⟨-, Av, cv, rfl, -⟩ := id (Sl.of_own hoy))
            | fail)
          have hz4 := hBy.size
          have hI4 := hI.call hBy
          have kt0 := Blk.new w4 54 #[.int .u16 h0, .int .u8 h1, .int .u8 h2, .int .u32 h3, .int .u32 h4, .int .i32 h5, .int .u16 h6, .int .u16 h7, .slice Av body.length cv]
          have kc4 := (kc2.below hBy kc2.lt).alloc (.cells #[.int .u16 h0, .int .u8 h1, .int .u8 h2, .int .u32 h3, .int .u32 h4, .int .i32 h5, .int .u16 h6, .int .u16 h7, .slice Av body.length cv] 54)
          have hb45 : Below w4.heap.size w4 (w4.alloc (.cells #[.int .u16 h0, .int .u8 h1, .int .u8 h2, .int .u32 h3, .int .u32 h4, .int .i32 h5, .int .u16 h6, .int .u16 h7, .slice Av body.length cv] 54)) := Below.alloc (Below.refl _ _) (Nat.le_refl _) _
          clear c0 c2
          have c2 := kc4.cell 2
          simp only [List.getElem?_toArray, List.getElem?_cons_zero, List.getElem?_cons_succ] at c2
          have f4 := kt0.free 4
          have y4 := kt0.cell 4
          simp only [List.getElem?_toArray, List.getElem?_cons_zero, List.getElem?_cons_succ] at y4
          clear q0 q1 q2 q3 q4 q5 q6 q7 q8
          generalize w4.alloc (.cells #[.int .u16 h0, .int .u8 h1, .int .u8 h2, .int .u32 h3, .int .u32 h4, .int .i32 h5, .int .u16 h6, .int .u16 h7, .slice Av body.length cv] 54) = w5 at *
          go_upto_region 9 with fail
          have hb46 := hb45.setCell (p := ⟨w4.heap.size, 4, none⟩) (Nat.le_refl _) (.int .u32 self)
          have kt1 : Blk (w5.setCell ⟨w4.heap.size, 4, none⟩ (.int .u32 self)) w4.heap.size 54 #[.int .u16 h0, .int .u8 h1, .int .u8 h2, .int .u32 h3, .int .u32 self, .int .i32 h5, .int .u16 h6, .int .u16 h7, .slice Av body.length cv] := kt0.set_ 4 _
          clear f4 y4 c2 kc4 kt0 hb45
          generalize w5.setCell ⟨w4.heap.size, 4, none⟩ (.int .u32 self) = w6 at *
          have hz6 := hb46.size
          have hoy6 := own_below hoy hb46
          have okS : HeadOk ⟨h0, h1, h2, h3, self, h5, h6, h7⟩ := ⟨hok.1.age, hok.1.opts, hok.1.type, hok.1.id, hself, hok.1.seq, hok.1.sum, hok.1.len⟩
          have CSe := seal_any ⟨h0, h1, h2, h3, self, h5, h6, h7⟩ okS w6.heap.size (.slice Av body.length cv) body w6 (Sl.of_own hoy6) (Nat.le_refl _) (by omega) hok.2.2
          dsimp only [stateVal] at CSe
          replace CSe := Lib.hid CSe
          go_upto_region 10 with (first
            | (refine wpList_load_row rfl 54 (.tmp 5) rfl w4.heap.size rfl 54 #[.int .u16 h0, .int .u8 h1, .int .u8 h2, .int .u32 h3, .int .u32 self, .int .i32 h5, .int .u16 h6, .int .u16 h7, .slice Av body.length cv] (0, 0) _ kt1 Tryz.underlying54 rfl (by kernel_rfl) ?_)
            | (go_at_call 22; refine Calls.mono CSe.out ?_; rintro e w7 ⟨v7, r, rfl, hr7, ho7, hB7⟩; obtain ⟨-, Aw, cw, rfl, -⟩ := id (Sl.of_own ho7); have kt7 := Blk.call hB7 kt1)
            | (refine wpList_store_row rfl 54 (.tmp 5) (.tmp 37) rfl w4.heap.size #[.int .u16 h0, .int .u8 h1, .int .u8 h2, .int .u32 h3, .int .u32 self, .int .i32 h5, .int .u16 r, .int .u16 (20 + (body.length : Int)), .slice Aw body.length cw] rfl rfl 54 #[.int .u16 h0, .int .u8 h1, .int .u8 h2, .int .u32 h3, .int .u32 self, .int .i32 h5, .int .u16 h6, .int .u16 h7, .slice Av body.length cv] kt7 (by kernel_rfl) rfl (by simp [Value.oneCell']) ?_)
            | fail)
          have kt8 := blk_setRow (cs := #[.int .u16 h0, .int .u8 h1, .int .u8 h2, .int .u32 h3, .int .u32 self, .int .i32 h5, .int .u16 r, .int .u16 (20 + (body.length : Int)), .slice Aw body.length cw]) kt7
          have ho8 := own_setRow ho7 (g := w4.heap.size) (by have := kt1.lt; omega) #[.int .u16 h0, .int .u8 h1, .int .u8 h2, .int .u32 h3, .int .u32 self, .int .i32 h5, .int .u16 r, .int .u16 (20 + (body.length : Int)), .slice Aw body.length cw]
          have hb48 := below_setRow (hb46.trans (hB7.mono hz6)) (Nat.le_refl _) #[.int .u16 h0, .int .u8 h1, .int .u8 h2, .int .u32 h3, .int .u32 self, .int .i32 h5, .int .u16 r, .int .u16 (20 + (body.length : Int)), .slice Aw body.length cw]
          generalize w7.setRow w4.heap.size #[.int .u16 h0, .int .u8 h1, .int .u8 h2, .int .u32 h3, .int .u32 self, .int .i32 h5, .int .u16 r, .int .u16 (20 + (body.length : Int)), .slice Aw body.length cw] = w8 at *
          have hI8 := hI4.call hb48
          have hI9 := hI8.alloc (.cells #[.int .u16 h0, .int .u8 h1, .int .u8 h2, .int .u32 h3, .int .u32 self, .int .i32 h5, .int .u16 r, .int .u16 (20 + (body.length : Int)), .slice Aw body.length cw] 54)
          have ho9 := own_alloc (own_less ho8 (show wc.heap.size ≤ w6.heap.size by omega)) (.cells #[.int .u16 h0, .int .u8 h1, .int .u8 h2, .int .u32 h3, .int .u32 self, .int .i32 h5, .int .u16 r, .int .u16 (20 + (body.length : Int)), .slice Aw body.length cw] 54)
          have okR : HeadOk ⟨h0, h1, h2, h3, self, h5, r, 20 + (body.length : Int)⟩ := ⟨hok.1.age, hok.1.opts, hok.1.type, hok.1.id, hself, hok.1.seq, FlR.range hr7, by constructor <;> simp only <;> omega⟩
          have hz8 := hb48.size
          go_wp2_with (first
            | (refine wpList_load_row rfl 54 (.tmp 5) rfl w4.heap.size rfl 54 #[.int .u16 h0, .int .u8 h1, .int .u8 h2, .int .u32 h3, .int .u32 self, .int .i32 h5, .int .u16 r, .int .u16 (20 + (body.length : Int)), .slice Aw body.length cw] (0, 0) _ kt8 Tryz.underlying54 rfl (by kernel_rfl) ?_)
            | (at_builtin; refine wpList_append rfl (.tmp 39) (.tmp 41) 23 rfl wc.heap.size stT u3 ys.length (ys.flatMap sL) rfl hI9.own _ _ 1 [.int .u16 h0, .int .u8 h1, .int .u8 h2, .int .u32 h3, .int .u32 self, .int .i32 h5, .int .u16 r, .int .u16 (20 + (body.length : Int)), .slice Aw body.length cw] rfl (Sl.lit w8 #[.int .u16 h0, .int .u8 h1, .int .u8 h2, .int .u32 h3, .int .u32 self, .int .i32 h5, .int .u16 r, .int .u16 (20 + (body.length : Int)), .slice Aw body.length cw] 54 (by simp [maxLen]) rfl) (by simp [Value.oneCell']) (by simp only [maxLen]; omega) (by omega) (by simp; omega) ?_; intro v9 w9 ho99 hg9 hob9)
            | fail)
          go_roundg (ls.length - (k + 1))
          case measure => omega
          case rel =>
            refine ⟨k + 1, ys ++ [((⟨⟨h0, h1, h2, h3, self, h5, r, 20 + (body.length : Int)⟩, Aw, body.length, cw⟩, body) : StY)], by omega, rfl, by go_num, by simp [hyk], fun s hs => ?_, hI9.grow ho9 ?_ hg9⟩
            · rw [sOf_snoc] at hs
              rcases List.mem_append.1 hs with hs | hs
              · exact hya s hs
              · rw [List.mem_singleton.1 hs]
                exact ⟨rfl, okR, by show body.length ≤ _; omega, hok.2.2⟩
            · rw [List.length_append, List.flatMap_append]
              exact ho99
        · obtain rfl : k = ls.length := by omega
          have ik : ¬ (ls.length : Int) < (ls.length : Int) := by omega
          go_upto_region 11 with fail
          obtain ⟨-, uA, uc, rfl, -⟩ := id (Sl.of_own hI.own)
          have hmix : (Tryz.prog).follows .mixedOrders = true := by kernel_rfl
          have hBw1 := hBw.trans (hI.below.mono hBw.size)
          have CW0 : ∀ W2, Below w1.heap.size w1 W2 → Calls Tryz.prog 18 #[.slice lA lw.length lc] W2 fun e w' => ∃ v xs, e = .returned v ∧ gOf xs = R ∧ ImpR W2 xs v w' := fun W2 h2 => ways19_any w.heap.size _ R lw W2 (hW.below (hBw1.trans (h2.mono (by have := hBw1.size; omega)))) (by have h3 := hBw1.size; have h4 := h2.size; omega) (fun r hr => (hRo r hr).2.2) hlw
          have hR400 : ∀ r ∈ R, r.2.length ≤ 400 := fun r hr => by
            obtain ⟨j, hj, rfl⟩ := List.mem_iff_getElem.1 hr
            have hj2 : j < lw.length := by rw [hW.len]; exact hj
            have h3 := hw4 _ (List.getElem_mem hj2)
            rw [sl_len (hW.hops j hj2 hj)] at h3
            exact h3
          have hRl : R.length ≤ 60 := by rw [← hW.len]; exact hw60
          have hyl : (sOf ys).length = ys.length := by simp [sOf]
          have CR0 : ∀ W2, Below w1.heap.size w1 W2 → ∀ (A : Option Addr) (c : Nat) (xs : List WayY), WaysIn W2 W2.heap.size (.slice A xs.length c) R (xs.map (·.1)) → Calls Tryz.prog 20 #[.slice uA ys.length uc, .int .u32 area, .int .u32 self, .slice A xs.length c] W2 fun e w' => ∃ a b c d, e = .returned (.tuple #[.slice a 0 b, .slice c 0 d]) ∧ Below W2.heap.size W2 w' := fun W2 h2 A c xs hwx => by
            have hst := (hI.states.below h2).more h2.size
            have C := routes_any 400 W2.heap.size uA uc (sOf ys) (ys.map (·.1)) area self A c R (xs.map (·.1)) W2 hR400 (by rw [hyl]; omega) (by rw [hyl]; omega) (by rw [List.length_map]; exact hst) (fun s hs => (hya s hs).2) (by rw [List.length_map]; exact hwx) ⟨fun r hr => (hRo r hr).1, fun r hr => by have := hR400 r hr; omega, by omega⟩ (Nat.le_refl _)
            rw [List.length_map, List.length_map, leadsP_own _ _ _ fun s hs => (hya s hs).1] at C
            exact Calls.mono C fun e w' h => routes_none h
          replace CW0 := Lib.hid CW0
          replace CR0 := Lib.hid CR0
          replace hyk := Lib.hid hyk
          clear hyl
          refine wp_region_vals [some 44, some 45, some 46, some 47, some 48, some 49, some 50, some 51, some 52, some 43, some 53, some 54, some 6, some 7] (fun W => Below w1.heap.size w1 W) (fun W W' => Below W.heap.size W W') id (OwnV w.heap.size uA ys.length uc area self lA lw.length lc R) hmix (by kernel_rfl) rfl (by decide) (by kernel_rfl) OwnV.call (Below.refl _ _).drew ?_ ?_
          · intro t w' a' hJ ha i hlt hd
            simp only [putFrom, Act.put, Nat.reduceAdd, List.setIfInBounds_toArray, List.set_cons_zero, List.set_cons_succ] at ha
            subst ha
            replace hlt : i < 14 := hlt
            have kcw := kc2.below hJ kc2.lt
            have hzw := hJ.size
            rcases (show i = 0 ∨ i = 1 ∨ i = 2 ∨ i = 3 ∨ i = 4 ∨ i = 5 ∨ i = 6 ∨ i = 7 ∨ i = 8 ∨ i = 9 ∨ i = 10 ∨ i = 11 ∨ i = 12 ∨ i = 13 by omega) with rfl | rfl | rfl | rfl | rfl | rfl | rfl | rfl | rfl | rfl | rfl | rfl | rfl | rfl
            · refine wpOp_step rfl (fun K' hK => ?_)
              replace hK := Lib.hid hK
              go_wp2
              exact hK.out _ _ ⟨(.slice uA ys.length uc), (by simp only [Act.put, List.getElem?_cons_zero, Option.getD_some, List.setIfInBounds_toArray, List.set_cons_zero, List.set_cons_succ]), hJ, Below.refl _ _, rfl⟩
            · refine wpOp_step rfl (fun K' hK => ?_)
              replace hK := Lib.hid hK
              go_wp2
              exact hK.out _ _ ⟨(.pointer (some ⟨w.heap.size, 1, none⟩)), (by simp only [Act.put, List.getElem?_cons_zero, List.getElem?_cons_succ, Option.getD_some, List.setIfInBounds_toArray, List.set_cons_zero, List.set_cons_succ]), hJ, Below.refl _ _, rfl⟩
            · have d1 : t 1 = _ := hd 1 (by kernel_rfl)
              rw [d1]
              have hx := kcw.cell 1
              simp only [List.getElem?_toArray, List.getElem?_cons_zero, List.getElem?_cons_succ] at hx
              refine wpOp_step rfl (fun K' hK => ?_)
              replace hK := Lib.hid hK
              go_wp2
              exact hK.out _ _ ⟨(.int .u32 area), (by simp only [Act.put, List.getElem?_cons_zero, List.getElem?_cons_succ, Option.getD_some, List.setIfInBounds_toArray, List.set_cons_zero, List.set_cons_succ]), hJ, Below.refl _ _, rfl⟩
            · refine wpOp_step rfl (fun K' hK => ?_)
              replace hK := Lib.hid hK
              go_wp2
              exact hK.out _ _ ⟨(.pointer (some ⟨w.heap.size, 2, none⟩)), (by simp only [Act.put, List.getElem?_cons_zero, List.getElem?_cons_succ, Option.getD_some, List.setIfInBounds_toArray, List.set_cons_zero, List.set_cons_succ]), hJ, Below.refl _ _, rfl⟩
            · have d3 : t 3 = _ := hd 3 (by kernel_rfl)
              rw [d3]
              have hx := kcw.cell 2
              simp only [List.getElem?_toArray, List.getElem?_cons_zero, List.getElem?_cons_succ] at hx
              refine wpOp_step rfl (fun K' hK => ?_)
              replace hK := Lib.hid hK
              go_wp2
              exact hK.out _ _ ⟨(.int .u32 self), (by simp only [Act.put, List.getElem?_cons_zero, List.getElem?_cons_succ, Option.getD_some, List.setIfInBounds_toArray, List.set_cons_zero, List.set_cons_succ]), hJ, Below.refl _ _, rfl⟩
            · refine wpOp_step rfl (fun K' hK => ?_)
              replace hK := Lib.hid hK
              go_wp2
              exact hK.out _ _ ⟨(.pointer (some ⟨w.heap.size, 3, none⟩)), (by simp only [Act.put, List.getElem?_cons_zero, List.getElem?_cons_succ, Option.getD_some, List.setIfInBounds_toArray, List.set_cons_zero, List.set_cons_succ]), hJ, Below.refl _ _, rfl⟩
            · have d5 : t 5 = _ := hd 5 (by kernel_rfl)
              rw [d5]
              have hx := kcw.cell 3
              simp only [List.getElem?_toArray, List.getElem?_cons_zero, List.getElem?_cons_succ] at hx
              refine wpOp_step rfl (fun K' hK => ?_)
              replace hK := Lib.hid hK
              go_wp2
              exact hK.out _ _ ⟨(.slice lA lw.length lc), (by simp only [Act.put, List.getElem?_cons_zero, List.getElem?_cons_succ, Option.getD_some, List.setIfInBounds_toArray, List.set_cons_zero, List.set_cons_succ]), hJ, Below.refl _ _, rfl⟩
            · have d6 : t 6 = _ := hd 6 (by kernel_rfl)
              rw [d6]
              have CC := Lib.hid (CW0.out w' hJ)
              refine wpOp_step rfl (fun K' hK => ?_)
              replace hK := Lib.hid hK
              go_wp2_with (go_at_call 18; refine Calls.mono CC.out ?_; rintro e w4 ⟨vv, xs, rfl, hgx, hIx⟩)
              have hwx := hIx.ways
              rw [hgx] at hwx
              obtain ⟨-, Av, cv, rfl, -⟩ := id (Sl.of_own hIx.own)
              exact hK.out _ _ ⟨_, (by simp only [Act.put, List.getElem?_cons_zero, List.getElem?_cons_succ, Option.getD_some, List.setIfInBounds_toArray, List.set_cons_zero, List.set_cons_succ]), hJ.trans (hIx.below.mono hzw), hIx.below, ⟨Av, cv, xs, rfl, hwx⟩⟩
            · have d0 : t 0 = _ := hd 0 (by kernel_rfl)
              rw [d0]
              have d2 : t 2 = _ := hd 2 (by kernel_rfl)
              rw [d2]
              have d4 : t 4 = _ := hd 4 (by kernel_rfl)
              rw [d4]
              obtain ⟨Aj, cj, xs, d7, hwj⟩ := hd 7 (by kernel_rfl)
              rw [d7]
              have CC := Lib.hid (CR0.out w' hJ Aj cj xs hwj)
              refine wpOp_step rfl (fun K' hK => ?_)
              replace hK := Lib.hid hK
              go_wp2_with (go_at_call 20; refine Calls.mono CC.out ?_; rintro e wj ⟨za, zb, zc, zd, rfl, hBj⟩)
              exact hK.out _ _ ⟨(.tuple #[.slice za 0 zb, .slice zc 0 zd]), (by simp only [Act.put, List.getElem?_cons_zero, List.getElem?_cons_succ, Option.getD_some, List.setIfInBounds_toArray, List.set_cons_zero, List.set_cons_succ]), hJ.trans (hBj.mono hzw), hBj, ⟨za, zb, zc, zd, rfl⟩⟩
            · obtain ⟨za, zb, zc, zd, d8⟩ := hd 8 (by kernel_rfl)
              rw [d8]
              refine wpOp_step rfl (fun K' hK => ?_)
              replace hK := Lib.hid hK
              go_wp2
              exact hK.out _ _ ⟨(.tuple #[.slice za 0 zb, .slice zc 0 zd]), (by simp only [Act.put, List.getElem?_cons_zero, List.getElem?_cons_succ, Option.getD_some, List.setIfInBounds_toArray, List.set_cons_zero, List.set_cons_succ]), hJ, Below.refl _ _, ⟨za, zb, zc, zd, rfl⟩⟩
            · obtain ⟨za, zb, zc, zd, d9⟩ := hd 9 (by kernel_rfl)
              rw [d9]
              refine wpOp_step rfl (fun K' hK => ?_)
              replace hK := Lib.hid hK
              go_wp2
              exact hK.out _ _ ⟨(.slice za 0 zb), (by simp only [Act.put, List.getElem?_cons_zero, List.getElem?_cons_succ, Option.getD_some, List.setIfInBounds_toArray, List.set_cons_zero, List.set_cons_succ]), hJ, Below.refl _ _, ⟨za, zb, rfl⟩⟩
            · obtain ⟨za, zb, zc, zd, d9⟩ := hd 9 (by kernel_rfl)
              rw [d9]
              refine wpOp_step rfl (fun K' hK => ?_)
              replace hK := Lib.hid hK
              go_wp2
              exact hK.out _ _ ⟨(.slice zc 0 zd), (by simp only [Act.put, List.getElem?_cons_zero, List.getElem?_cons_succ, Option.getD_some, List.setIfInBounds_toArray, List.set_cons_zero, List.set_cons_succ]), hJ, Below.refl _ _, ⟨zc, zd, rfl⟩⟩
            · obtain ⟨za, zb, d10⟩ := hd 10 (by kernel_rfl)
              rw [d10]
              refine wpOp_step rfl (fun K' hK => ?_)
              replace hK := Lib.hid hK
              go_wp2
              exact hK.out _ _ ⟨(.slice za 0 zb), (by simp only [Act.put, List.getElem?_cons_zero, List.getElem?_cons_succ, Option.getD_some, List.setIfInBounds_toArray, List.set_cons_zero, List.set_cons_succ]), hJ, Below.refl _ _, ⟨za, zb, rfl⟩⟩
            · obtain ⟨za, zb, d11⟩ := hd 11 (by kernel_rfl)
              rw [d11]
              refine wpOp_step rfl (fun K' hK => ?_)
              replace hK := Lib.hid hK
              go_wp2
              exact hK.out _ _ ⟨(.slice za 0 zb), (by simp only [Act.put, List.getElem?_cons_zero, List.getElem?_cons_succ, Option.getD_some, List.setIfInBounds_toArray, List.set_cons_zero, List.set_cons_succ]), hJ, Below.refl _ _, ⟨za, zb, rfl⟩⟩
          · intro t w' a' hJ ha hv
            simp only [putFrom, Act.put, Nat.reduceAdd, List.setIfInBounds_toArray, List.set_cons_zero, List.set_cons_succ] at ha
            subst ha
            obtain ⟨a6, b6, h6⟩ := hv 12 (by decide)
            obtain ⟨a7, b7, h7⟩ := hv 13 (by decide)
            rw [h6, h7]
            clear hv h6 h7
            have hBe := hBw1.trans (hJ.mono (by have := hBw1.size; omega))
            go_wp2_with (go_at_call 16; refine Calls.mono (works19_any _) ?_; rintro e w9 ⟨rfl, hB9⟩)
            go_ret
            exact ⟨rfl, hBe.trans (hB9.mono hBe.size)⟩
    · go_wp2_with (go_at_call 16; refine Calls.mono (works19_any _) ?_; rintro e w3 ⟨rfl, hB3⟩)
      go_ret
      exact ⟨rfl, hBw.trans (hB3.mono hBw.size)⟩
end Go.Proofs.YtiikagabdiphkaaGreat
