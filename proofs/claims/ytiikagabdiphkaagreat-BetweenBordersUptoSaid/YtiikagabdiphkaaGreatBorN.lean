/- BetweenBorders' walk: nothing is led to without a border that is reached. Conditions: the states, their bodies, the ways and their hops lie in memory. -/
import Derived.Test.YtiikagabdiphkaaGreatGuaN
import Derived.Test.YtiikagabdiphkaaGreatBorP
namespace Go.Proofs.YtiikagabdiphkaaGreat
open Go.RowKit Go.Lo

/-- what Routes leaves, as it stays -/
def RouW (base : Nat) (f : K3 → Option WayG) (area self : Int) (nv bv : Value) (W : World) : Prop :=
  ∃ (out : List WayY) (M : Nat), W.ownsRow base 38 10 nv (netsP area out).length ((netsP area out).flatMap yL) ∧ W.ownsRow base 38 10 bv (bordsP area self out).length ((bordsP area self out).flatMap yL) ∧ (∀ x ∈ out, f (keyG x.1.n) = some (x.1.n, x.2)) ∧ out.length ≤ 1000 ∧ M ≤ W.heap.size ∧ (∀ k, nv.ownBlock = some k ∨ bv.ownBlock = some k → M ≤ k) ∧ ∀ x ∈ out, Sl W M 3 (.slice x.1.A x.1.len x.1.cap) x.2.length (x.2.flatMap hopCells)
theorem RouW.call {base : Nat} {f : K3 → Option WayG} {area self : Int} {nv bv : Value} {W W' : World} (hB : Below W.heap.size W W') (h : RouW base f area self nv bv W) : RouW base f area self nv bv W' := by
  obtain ⟨out, M, h1, h2, h3, h4, h5, h6, h7⟩ := h
  exact ⟨out, M, own_below h1 hB, own_below h2 hB, h3, h4, Nat.le_trans h5 hB.size, h6, fun x hx => (h7 x hx).below (hB.mono h5)⟩
theorem RouW.of {N base : Nat} {f : K3 → Option WayG} {area self : Int} {w w' : World} {e : Ending} (h : RoutesPost N f area self w e w') (hb : base ≤ w.heap.size) (hN : N ≤ 1000) : ∃ nv bv, e = .returned (.tuple #[nv, bv]) ∧ RouW base f area self nv bv w' ∧ Below w.heap.size w w' := by
  obtain ⟨nv, bv, out, rfl, hT, -, -, hf, -, hl, M, hM, hMb, hH⟩ := h
  exact ⟨nv, bv, rfl, ⟨out, M, own_less hT.fst hb, own_less hT.snd hb, hf, Nat.le_trans hl hN, hM, hMb, hH⟩, hT.below⟩

/-- what the operations of the first region leave -/
def BorV (g : Nat) (sA : Option Addr) (sn sc : Nat) (area self : Int) (lA : Option Addr) (ln lc : Nat) (S : List StG) (R : List WayG) (base : Nat) (f : K3 → Option WayG) : Nat → Value → Value → World → Prop
  | 0, v, _, _ => v = .pointer (some ⟨g, 0, none⟩)
  | 1, v, _, _ => v = .slice sA sn sc
  | 2, v, _, W => ∃ (A : Option Addr) (c : Nat) (ys : List StY), v = .slice A ys.length c ∧ sOf ys = S ∧ StatesIn W W.heap.size (.slice A ys.length c) S (ys.map (·.1))
  | 3, v, _, _ => v = .pointer (some ⟨g, 1, none⟩)
  | 4, v, _, _ => v = .int .u32 area
  | 5, v, _, _ => v = .pointer (some ⟨g, 2, none⟩)
  | 6, v, _, _ => v = .int .u32 self
  | 7, v, _, _ => v = .pointer (some ⟨g, 3, none⟩)
  | 8, v, _, _ => v = .slice lA ln lc
  | 9, v, _, W => ∃ (A : Option Addr) (c : Nat) (xs : List WayY), v = .slice A xs.length c ∧ WaysIn W W.heap.size (.slice A xs.length c) R (xs.map (·.1))
  | 10, v, _, W => ∃ nv bv, v = .tuple #[nv, bv] ∧ RouW base f area self nv bv W
  | 11, v, u, _ => v = u ∧ ∃ x y, v = .tuple #[x, y]
  | 12, v, u, _ => ∃ x y, u = .tuple #[x, y] ∧ v = x
  | 13, v, u, _ => ∃ x y, u = .tuple #[x, y] ∧ v = y
  | 14, v, u, _ => v = u
  | 15, v, u, _ => v = u
  | _, _, _, _ => True
theorem BorV.call {g : Nat} {sA : Option Addr} {sn sc : Nat} {area self : Int} {lA : Option Addr} {ln lc : Nat} {S : List StG} {R : List WayG} {base : Nat} {f : K3 → Option WayG} : ∀ (i : Nat) (v u : Value) (W W' : World), Below W.heap.size W W' → BorV g sA sn sc area self lA ln lc S R base f i v u W → BorV g sA sn sc area self lA ln lc S R base f i v u W'
  | 0, _, _, _, _, _, h => h
  | 1, _, _, _, _, _, h => h
  | 2, _, _, _, _, hB, ⟨A, c, ys, h1, h2, h3⟩ => ⟨A, c, ys, h1, h2, (h3.below hB).more hB.size⟩
  | 3, _, _, _, _, _, h => h
  | 4, _, _, _, _, _, h => h
  | 5, _, _, _, _, _, h => h
  | 6, _, _, _, _, _, h => h
  | 7, _, _, _, _, _, h => h
  | 8, _, _, _, _, _, h => h
  | 9, _, _, _, _, hB, ⟨A, c, xs, h1, h2⟩ => ⟨A, c, xs, h1, (h2.below hB).more hB.size⟩
  | 10, _, _, _, _, hB, ⟨nv, bv, h1, h2⟩ => ⟨nv, bv, h1, h2.call hB⟩
  | 11, _, _, _, _, _, h => h
  | 12, _, _, _, _, _, h => h
  | 13, _, _, _, _, _, h => h
  | 14, _, _, _, _, _, h => h
  | 15, _, _, _, _, _, h => h
  | _ + 16, _, _, _, _, _, _ => trivial
/-- which value an operation's own hangs on -/
def borD : Nat → Nat
  | 11 => 10
  | 12 => 11
  | 13 => 11
  | 14 => 12
  | 15 => 13
  | n => n
/-- what the operations of the last region leave -/
def NonV (g : Nat) (sA : Option Addr) (sn sc : Nat) (area self : Int) (S : List StG) : Nat → Value → Value → World → Prop
  | 0, v, _, _ => v = .pointer (some ⟨g, 0, none⟩)
  | 1, v, _, _ => v = .slice sA sn sc
  | 2, v, _, W => ∃ (A : Option Addr) (c : Nat) (ys : List StY), v = .slice A ys.length c ∧ sOf ys = S ∧ StatesIn W W.heap.size (.slice A ys.length c) S (ys.map (·.1))
  | 3, v, _, _ => v = .pointer (some ⟨g, 1, none⟩)
  | 4, v, _, _ => v = .int .u32 area
  | 5, v, _, _ => v = .pointer (some ⟨g, 2, none⟩)
  | 6, v, _, _ => v = .int .u32 self
  | 7, v, _, _ => ∃ a b c d, v = .tuple #[.slice a 0 b, .slice c 0 d]
  | 8, v, _, _ => ∃ a b c d, v = .tuple #[.slice a 0 b, .slice c 0 d]
  | 9, v, _, _ => ∃ a b, v = .slice a 0 b
  | 10, v, _, _ => ∃ a b, v = .slice a 0 b
  | 11, v, _, _ => ∃ a b, v = .slice a 0 b
  | 12, v, _, _ => ∃ a b, v = .slice a 0 b
  | _, _, _, _ => True
theorem NonV.call {g : Nat} {sA : Option Addr} {sn sc : Nat} {area self : Int} {S : List StG} : ∀ (i : Nat) (v u : Value) (W W' : World), Below W.heap.size W W' → NonV g sA sn sc area self S i v u W → NonV g sA sn sc area self S i v u W'
  | 0, _, _, _, _, _, h => h
  | 1, _, _, _, _, _, h => h
  | 2, _, _, _, _, hB, ⟨A, c, ys, h1, h2, h3⟩ => ⟨A, c, ys, h1, h2, (h3.below hB).more hB.size⟩
  | 3, _, _, _, _, _, h => h
  | 4, _, _, _, _, _, h => h
  | 5, _, _, _, _, _, h => h
  | 6, _, _, _, _, _, h => h
  | 7, _, _, _, _, _, h => h
  | 8, _, _, _, _, _, h => h
  | 9, _, _, _, _, _, h => h
  | 10, _, _, _, _, _, h => h
  | 11, _, _, _, _, _, h => h
  | 12, _, _, _, _, _, h => h
  | _ + 13, _, _, _, _, _, _ => trivial

theorem sl_max {w : World} {B s n : Nat} {v : Value} {xs : List Value} (h : Sl w B s v n xs) : n ≤ 9223372036854775807 := by
  obtain ⟨-, A, c, -, h1, h2, -⟩ := h
  have : maxLen ≤ 9223372036854775807 := by decide
  omega

/-- is a hop one of a border's? -/
def hasB (c : Int) (h : Hop) (R : List WayG) : Bool := R.any fun r => bord c r.1 && r.2.contains h
theorem hasB_snoc (c : Int) (h : Hop) (R : List WayG) (r : WayG) : hasB c h (R ++ [r]) = (hasB c h R || bord c r.1 && r.2.contains h) := by simp [hasB]
theorem backed_hasB {R : List WayG} {g : WayG} (hb : Backed R g) {h : Hop} (hh : h ∈ g.2) : hasB g.1.cost h R = true := by
  obtain ⟨r, hr, h1, h2⟩ := hb.2 h hh
  unfold hasB
  rw [List.any_eq_true]
  exact ⟨r, hr, by rw [h1, Bool.true_and]; exact List.contains_iff_mem.2 h2⟩
theorem rous_mem {area self : Int} {out : List WayY} {x : WayY} (h : x ∈ netsP area out ++ bordsP area self out) : ∃ y ∈ out, x = setA area y := by
  rcases List.mem_append.1 h with h | h
  · obtain ⟨y, hy, e⟩ := List.mem_map.1 h
    exact ⟨y, (List.mem_filter.1 hy).1, e.symm⟩
  · obtain ⟨y, hy, e⟩ := List.mem_map.1 h
    exact ⟨y, (List.mem_filter.1 hy).1, e.symm⟩

set_option maxRecDepth 100000 in
set_option maxHeartbeats 4000000 in
theorem betweenBorders_any (S : List StG) (ls : List StV) (sv : Value) (area self : Int) (R : List WayG) (lw : List WayV) (lv : Value) (w : World) (hS : StatesIn w w.heap.size sv S ls) (hSo : ArgS S) (hls : ls.length ≤ 2000000) (_hself : 0 ≤ self ∧ self < 4294967296) (hW : WaysIn w w.heap.size lv R lw) (hRo : ArgR R) (hlw : lw.length ≤ 2000000) :
    Calls Tryz.prog 4 #[.agg #[sv, .int .u32 area, .int .u32 self, lv]] w fun e w' => e = .returned (.bool true) ∧ Below w.heap.size w w' := by
  obtain ⟨-, sA, sc, rfl, -⟩ := id hS.sl
  obtain ⟨-, lA, lc, rfl, -⟩ := id hW.sl
  have hB0 : Below w.heap.size w (w.alloc (.cells #[.slice sA ls.length sc, .int .u32 area, .int .u32 self, .slice lA lw.length lc] 26)) := Below.alloc (Below.refl _ _) (Nat.le_refl _) _
  have kc := Blk.new w 26 #[.slice sA ls.length sc, .int .u32 area, .int .u32 self, .slice lA lw.length lc]
  go_enter Tryz.func4, Tryz.ntmps4
  go_upto_region 1 with fail
  generalize w.alloc (.cells #[.slice sA ls.length sc, .int .u32 area, .int .u32 self, .slice lA lw.length lc] 26) = w0 at *
  have hz0 := hB0.size
  have hS0 := hS.below hB0
  have hW0 := hW.below hB0
  have x0 := kc.cell 0
  have x3 := kc.cell 3
  simp only [List.getElem?_toArray, List.getElem?_cons_zero, List.getElem?_cons_succ] at x0 x3
  have CH := Lib.hid (heavy19_any ls _ w.heap.size w0 hS0.sl hls (hS0.lens fun s hs => (hSo s hs).2.1))
  have CB := Lib.hid (big19_any lw _ w.heap.size w0 hW0.sl hz0 (by omega) (hW0.bigs hRo))
  go_cut [20] (fun v wx => GuardR ls lw w0 v wx)
  case first =>
    go_wp2_with (first
      | (go_at_call 14; refine Calls.mono CH.out ?_; rintro e w1 ⟨q1, rfl, rfl, hq1⟩; cases q1)
      | (go_at_call 15; refine Calls.mono CB.out ?_; rintro e w2 ⟨q2, rfl, hq2, hB2⟩)
      | fail)
    · go_meet
      case rel => exact ⟨q2, rfl, fun h => ⟨hq1 (by first | rfl | trivial), hq2 h⟩, hB2⟩
    · go_meet
      case rel => exact ⟨true, rfl, fun h => (by cases h), Below.refl _ _⟩
  case rest =>
    obtain ⟨q, rfl, hq, hBc⟩ := hcut
    have hBw := hB0.trans (hBc.mono hz0)
    cases q
    · obtain ⟨⟨h60, h8⟩, hw60, hw4⟩ := hq rfl
      have kc1 := Blk.call hBc kc
      clear CH CB x0 x3 hq
      have hzc := hBc.size
      replace hS0 := Lib.hid hS0
      replace hW0 := Lib.hid hW0
      have hmix : (Tryz.prog).follows .mixedOrders = true := by kernel_rfl
      have hzc := hBc.size
      have hR400 : ∀ r ∈ R, r.2.length ≤ 400 := fun r hr => by
        obtain ⟨j, hj, rfl⟩ := List.mem_iff_getElem.1 hr
        have hj2 : j < lw.length := by rw [hW.len]; exact hj
        have h3 := hw4 _ (List.getElem_mem hj2)
        rw [sl_len (hW.hops j hj2 hj)] at h3
        exact h3
      have hRl : R.length ≤ 60 := by rw [← hW.len]; exact hw60
      have hSl : S.length ≤ 60 := by rw [← hS.len]; exact h60
      have hSk : ∀ x ∈ S, StOk x := fun s hs => ⟨(hSo s hs).1, by have := (hSo s hs).2.1; omega, (hSo s hs).2.2⟩
      have CS0 : ∀ W2, Below wc.heap.size wc W2 → Calls Tryz.prog 19 #[.slice sA ls.length sc] W2 fun e w' => ∃ v ys, e = .returned v ∧ sOf ys = S ∧ StR W2 ys v w' := fun W2 h2 => copystates_any w.heap.size _ S ls W2 (hS.below (hBw.trans (h2.mono hBw.size))) (by have := h2.size; have := hBw.size; omega) (fun s hs => (hSo s hs).2.1) hls
      have CW0 : ∀ W2, Below wc.heap.size wc W2 → Calls Tryz.prog 18 #[.slice lA lw.length lc] W2 fun e w' => ∃ v xs, e = .returned v ∧ gOf xs = R ∧ ImpR W2 xs v w' := fun W2 h2 => ways19_any w.heap.size _ R lw W2 (hW.below (hBw.trans (h2.mono hBw.size))) (by have := h2.size; have := hBw.size; omega) (fun r hr => (hRo r hr).2.2) hlw
      have CR0 : ∀ W2, Below wc.heap.size wc W2 → ∀ (A1 : Option Addr) (c1 : Nat) (ys : List StY) (A : Option Addr) (c : Nat) (xs : List WayY), sOf ys = S → StatesIn W2 W2.heap.size (.slice A1 ys.length c1) S (ys.map (·.1)) → WaysIn W2 W2.heap.size (.slice A xs.length c) R (xs.map (·.1)) → Calls Tryz.prog 20 #[.slice A1 ys.length c1, .int .u32 area, .int .u32 self, .slice A xs.length c] W2 fun e w' => ∃ nv bv, e = .returned (.tuple #[nv, bv]) ∧ RouW wc.heap.size (bestF (leadsP S self R)) area self nv bv w' ∧ Below W2.heap.size W2 w' := fun W2 h2 A1 c1 ys A c xs _ hst hwx => by
        have C := routes_any 400 W2.heap.size A1 c1 S (ys.map (·.1)) area self A c R (xs.map (·.1)) W2 hR400 (by omega) (by omega) (by rw [List.length_map]; exact hst) hSk (by rw [List.length_map]; exact hwx) ⟨fun r hr => (hRo r hr).1, fun r hr => by have := hR400 r hr; omega, by omega⟩ (Nat.le_refl _)
        rw [List.length_map, List.length_map] at C
        exact Calls.mono C fun e w' h => RouW.of h h2.size (by omega)
      have CN0 : ∀ W2, Below wc.heap.size wc W2 → ∀ (A1 : Option Addr) (c1 : Nat) (ys : List StY), sOf ys = S → StatesIn W2 W2.heap.size (.slice A1 ys.length c1) S (ys.map (·.1)) → Calls Tryz.prog 20 #[.slice A1 ys.length c1, .int .u32 area, .int .u32 self, .slice none 0 0] W2 fun e w' => ∃ a b c d, e = .returned (.tuple #[.slice a 0 b, .slice c 0 d]) ∧ Below W2.heap.size W2 w' := fun W2 h2 A1 c1 ys _ hst => by
        have hno : WaysIn W2 W2.heap.size (.slice none ([] : List WayV).length 0) [] [] := ⟨Sl.nil _ _ _, rfl, fun k h => absurd h (by simp)⟩
        have C := routes_any 400 W2.heap.size A1 c1 S (ys.map (·.1)) area self none 0 [] [] W2 (fun r hr => (by cases hr)) (by omega) (by omega) (by rw [List.length_map]; exact hst) hSk hno ⟨fun r hr => (by cases hr), fun r hr => (by cases hr), by simp⟩ (Nat.le_refl _)
        rw [List.length_map, leadsP_none] at C
        exact Calls.mono C fun e w' h => routes_none h
      have hbk : ∀ k o, bestF (leadsP S self R) k = some o → Backed R o := fun k o h => routes_backed h
      generalize bestF (leadsP S self R) = f at *
      replace CS0 := Lib.hid CS0
      replace CW0 := Lib.hid CW0
      replace CR0 := Lib.hid CR0
      replace CN0 := Lib.hid CN0
      go_upto_region 3 with fail
      refine wp_region_vals [some 23, some 24, some 25, some 26, some 27, some 28, some 29, some 30, some 31, some 32, some 33, some 22, some 34, some 35, some 3, some 4] (fun W => Below wc.heap.size wc W) (fun W W' => Below W.heap.size W W') borD (BorV w.heap.size sA ls.length sc area self lA lw.length lc S R wc.heap.size f) hmix (by kernel_rfl) rfl (by decide) (by kernel_rfl) BorV.call ((Below.refl _ _).drew) ?_ ?_
      · intro t w' a' hI ha i hlt hd
        simp only [putFrom, Act.put, Nat.reduceAdd, List.setIfInBounds_toArray, List.set_cons_zero, List.set_cons_succ] at ha
        subst ha
        replace hlt : i < 16 := hlt
        have kcw := kc1.below hI kc1.lt
        have hzw := hI.size
        rcases (show i = 0 ∨ i = 1 ∨ i = 2 ∨ i = 3 ∨ i = 4 ∨ i = 5 ∨ i = 6 ∨ i = 7 ∨ i = 8 ∨ i = 9 ∨ i = 10 ∨ i = 11 ∨ i = 12 ∨ i = 13 ∨ i = 14 ∨ i = 15 by omega) with rfl | rfl | rfl | rfl | rfl | rfl | rfl | rfl | rfl | rfl | rfl | rfl | rfl | rfl | rfl | rfl
        · refine wpOp_step rfl (fun K' hK => ?_)
          replace hK := Lib.hid hK
          go_wp2
          exact hK.out _ _ ⟨(.pointer (some ⟨w.heap.size, 0, none⟩)), (by simp only [Act.put, List.getElem?_cons_zero, Option.getD_some, List.setIfInBounds_toArray, List.set_cons_zero, List.set_cons_succ]), hI, Below.refl _ _, rfl⟩
        · have d0 : t 0 = _ := hd 0 (by kernel_rfl)
          rw [d0]
          have hx := kcw.cell 0
          simp only [List.getElem?_toArray, List.getElem?_cons_zero] at hx
          refine wpOp_step rfl (fun K' hK => ?_)
          replace hK := Lib.hid hK
          go_wp2
          exact hK.out _ _ ⟨(.slice sA ls.length sc), (by simp only [Act.put, List.getElem?_cons_zero, List.getElem?_cons_succ, Option.getD_some, List.setIfInBounds_toArray, List.set_cons_zero, List.set_cons_succ]), hI, Below.refl _ _, rfl⟩
        · have d1 : t 1 = _ := hd 1 (by kernel_rfl)
          rw [d1]
          have CC := Lib.hid (CS0.out w' hI)
          refine wpOp_step rfl (fun K' hK => ?_)
          replace hK := Lib.hid hK
          go_wp2_with (go_at_call 19; refine Calls.mono CC.out ?_; rintro e w4 ⟨vv, ys, rfl, hys, hSt⟩)
          have hst := hSt.states
          rw [hys] at hst
          obtain ⟨-, Av, cv, rfl, -⟩ := id (Sl.of_own hSt.own)
          exact hK.out _ _ ⟨_, (by simp only [Act.put, List.getElem?_cons_zero, List.getElem?_cons_succ, Option.getD_some, List.setIfInBounds_toArray, List.set_cons_zero, List.set_cons_succ]), hI.trans (hSt.below.mono hzw), hSt.below, ⟨Av, cv, ys, rfl, hys, hst⟩⟩
        · refine wpOp_step rfl (fun K' hK => ?_)
          replace hK := Lib.hid hK
          go_wp2
          exact hK.out _ _ ⟨(.pointer (some ⟨w.heap.size, 1, none⟩)), (by simp only [Act.put, List.getElem?_cons_zero, List.getElem?_cons_succ, Option.getD_some, List.setIfInBounds_toArray, List.set_cons_zero, List.set_cons_succ]), hI, Below.refl _ _, rfl⟩
        · have d3 : t 3 = _ := hd 3 (by kernel_rfl)
          rw [d3]
          have hx := kcw.cell 1
          simp only [List.getElem?_toArray, List.getElem?_cons_zero, List.getElem?_cons_succ] at hx
          refine wpOp_step rfl (fun K' hK => ?_)
          replace hK := Lib.hid hK
          go_wp2
          exact hK.out _ _ ⟨(.int .u32 area), (by simp only [Act.put, List.getElem?_cons_zero, List.getElem?_cons_succ, Option.getD_some, List.setIfInBounds_toArray, List.set_cons_zero, List.set_cons_succ]), hI, Below.refl _ _, rfl⟩
        · refine wpOp_step rfl (fun K' hK => ?_)
          replace hK := Lib.hid hK
          go_wp2
          exact hK.out _ _ ⟨(.pointer (some ⟨w.heap.size, 2, none⟩)), (by simp only [Act.put, List.getElem?_cons_zero, List.getElem?_cons_succ, Option.getD_some, List.setIfInBounds_toArray, List.set_cons_zero, List.set_cons_succ]), hI, Below.refl _ _, rfl⟩
        · have d5 : t 5 = _ := hd 5 (by kernel_rfl)
          rw [d5]
          have hx := kcw.cell 2
          simp only [List.getElem?_toArray, List.getElem?_cons_zero, List.getElem?_cons_succ] at hx
          refine wpOp_step rfl (fun K' hK => ?_)
          replace hK := Lib.hid hK
          go_wp2
          exact hK.out _ _ ⟨(.int .u32 self), (by simp only [Act.put, List.getElem?_cons_zero, List.getElem?_cons_succ, Option.getD_some, List.setIfInBounds_toArray, List.set_cons_zero, List.set_cons_succ]), hI, Below.refl _ _, rfl⟩
        · refine wpOp_step rfl (fun K' hK => ?_)
          replace hK := Lib.hid hK
          go_wp2
          exact hK.out _ _ ⟨(.pointer (some ⟨w.heap.size, 3, none⟩)), (by simp only [Act.put, List.getElem?_cons_zero, List.getElem?_cons_succ, Option.getD_some, List.setIfInBounds_toArray, List.set_cons_zero, List.set_cons_succ]), hI, Below.refl _ _, rfl⟩
        · have d7 : t 7 = _ := hd 7 (by kernel_rfl)
          rw [d7]
          have hx := kcw.cell 3
          simp only [List.getElem?_toArray, List.getElem?_cons_zero, List.getElem?_cons_succ] at hx
          refine wpOp_step rfl (fun K' hK => ?_)
          replace hK := Lib.hid hK
          go_wp2
          exact hK.out _ _ ⟨(.slice lA lw.length lc), (by simp only [Act.put, List.getElem?_cons_zero, List.getElem?_cons_succ, Option.getD_some, List.setIfInBounds_toArray, List.set_cons_zero, List.set_cons_succ]), hI, Below.refl _ _, rfl⟩
        · have d8 : t 8 = _ := hd 8 (by kernel_rfl)
          rw [d8]
          have CC := Lib.hid (CW0.out w' hI)
          refine wpOp_step rfl (fun K' hK => ?_)
          replace hK := Lib.hid hK
          go_wp2_with (go_at_call 18; refine Calls.mono CC.out ?_; rintro e w4 ⟨vv, xs, rfl, hgx, hIx⟩)
          have hwx := hIx.ways
          rw [hgx] at hwx
          obtain ⟨-, Av, cv, rfl, -⟩ := id (Sl.of_own hIx.own)
          exact hK.out _ _ ⟨_, (by simp only [Act.put, List.getElem?_cons_zero, List.getElem?_cons_succ, Option.getD_some, List.setIfInBounds_toArray, List.set_cons_zero, List.set_cons_succ]), hI.trans (hIx.below.mono hzw), hIx.below, ⟨Av, cv, xs, rfl, hwx⟩⟩
        · obtain ⟨A1, c1, ys, d2, hys, hst⟩ := hd 2 (by kernel_rfl)
          rw [d2]
          have d4 : t 4 = _ := hd 4 (by kernel_rfl)
          rw [d4]
          have d6 : t 6 = _ := hd 6 (by kernel_rfl)
          rw [d6]
          obtain ⟨A2, c2, xs, d9, hwx⟩ := hd 9 (by kernel_rfl)
          rw [d9]
          have CC := Lib.hid (CR0.out w' hI A1 c1 ys A2 c2 xs hys hst hwx)
          refine wpOp_step rfl (fun K' hK => ?_)
          replace hK := Lib.hid hK
          go_wp2_with (go_at_call 20; refine Calls.mono CC.out ?_; rintro e w4 ⟨nv, bv, rfl, hRou, hB4⟩)
          exact hK.out _ _ ⟨(.tuple #[nv, bv]), (by simp only [Act.put, List.getElem?_cons_zero, List.getElem?_cons_succ, Option.getD_some, List.setIfInBounds_toArray, List.set_cons_zero, List.set_cons_succ]), hI.trans (hB4.mono hzw), hB4, ⟨nv, bv, rfl, hRou⟩⟩
        · obtain ⟨nv, bv, d10, -⟩ := hd 10 (by kernel_rfl)
          rw [d10]
          refine wpOp_step rfl (fun K' hK => ?_)
          replace hK := Lib.hid hK
          go_wp2
          exact hK.out _ _ ⟨(.tuple #[nv, bv]), (by simp only [Act.put, List.getElem?_cons_zero, List.getElem?_cons_succ, Option.getD_some, List.setIfInBounds_toArray, List.set_cons_zero, List.set_cons_succ]), hI, Below.refl _ _, ⟨d10.symm, nv, bv, rfl⟩⟩
        · obtain ⟨-, nv, bv, d11⟩ := hd 11 (by kernel_rfl)
          rw [d11]
          refine wpOp_step rfl (fun K' hK => ?_)
          replace hK := Lib.hid hK
          go_wp2
          exact hK.out _ _ ⟨nv, (by simp only [Act.put, List.getElem?_cons_zero, List.getElem?_cons_succ, Option.getD_some, List.setIfInBounds_toArray, List.set_cons_zero, List.set_cons_succ]), hI, Below.refl _ _, ⟨nv, bv, d11, rfl⟩⟩
        · obtain ⟨-, nv, bv, d11⟩ := hd 11 (by kernel_rfl)
          rw [d11]
          refine wpOp_step rfl (fun K' hK => ?_)
          replace hK := Lib.hid hK
          go_wp2
          exact hK.out _ _ ⟨bv, (by simp only [Act.put, List.getElem?_cons_zero, List.getElem?_cons_succ, Option.getD_some, List.setIfInBounds_toArray, List.set_cons_zero, List.set_cons_succ]), hI, Below.refl _ _, ⟨nv, bv, d11, rfl⟩⟩
        · refine wpOp_step rfl (fun K' hK => ?_)
          replace hK := Lib.hid hK
          go_wp2
          exact hK.out _ _ ⟨(t 12), (by simp only [Act.put, List.getElem?_cons_zero, List.getElem?_cons_succ, Option.getD_some, List.setIfInBounds_toArray, List.set_cons_zero, List.set_cons_succ]), hI, Below.refl _ _, rfl⟩
        · refine wpOp_step rfl (fun K' hK => ?_)
          replace hK := Lib.hid hK
          go_wp2
          exact hK.out _ _ ⟨(t 13), (by simp only [Act.put, List.getElem?_cons_zero, List.getElem?_cons_succ, Option.getD_some, List.setIfInBounds_toArray, List.set_cons_zero, List.set_cons_succ]), hI, Below.refl _ _, rfl⟩
      · intro t wr a' hI ha hv
        simp only [putFrom, Act.put, Nat.reduceAdd, List.setIfInBounds_toArray, List.set_cons_zero, List.set_cons_succ] at ha
        subst ha
        obtain ⟨nv, bv, h10, hRou⟩ := hv 10 (by decide)
        obtain ⟨h11, -⟩ := hv 11 (by decide)
        obtain ⟨x12, y12, h12, e12⟩ := hv 12 (by decide)
        obtain ⟨x13, y13, h13, e13⟩ := hv 13 (by decide)
        have e14 : t 14 = t 12 := hv 14 (by decide)
        have e15 : t 15 = t 13 := hv 15 (by decide)
        have h11b : t 11 = .tuple #[nv, bv] := Eq.trans h11 h10
        rw [show t (borD 12) = t 11 from rfl, h11b] at h12
        rw [show t (borD 13) = t 11 from rfl, h11b] at h13
        simp only [Value.tuple.injEq, Array.mk.injEq, List.cons.injEq, and_true] at h12 h13
        obtain ⟨rfl, rfl⟩ := h12
        obtain ⟨rfl, rfl⟩ := h13
        rw [e14, e15, e12, e13]
        clear h10 h11 h11b e12 e13 e14 e15 hv CR0 CW0
        obtain ⟨out, M, hn, hb, hfo, hol, hMz, hMb, hH⟩ := hRou
        have hnl := netsP_len area out
        have hbl := bordsP_len area self out
        have hIz := hI.size
        go_wp2_with (first
          | (at_builtin; refine wpList_append rfl (.tmp 36) (.tmp 37) 30 rfl wc.heap.size wayT nv (netsP area out).length ((netsP area out).flatMap yL) rfl hn wr.heap.size bv (bordsP area self out).length ((bordsP area self out).flatMap yL) rfl (Sl.of_own hb) (fun u hu => by obtain ⟨y, hy, hu2⟩ := List.mem_flatMap.1 hu; exact yE.one y u hu2) (by simp only [maxLen]; omega) (by omega) hIz ?_; intro v9 w9 ho9 hg9 hob9)
          | fail)
        have hBc9 : Below wc.heap.size wr w9 := below_of_grown hg9 hIz (fun g hg => (hn.lt g hg).1)
        have hB9 : Below M wr w9 := below_of_grown hg9 hMz (fun g hg => hMb g (.inl hg))
        have hBcw : Below wc.heap.size wc w9 := hI.trans hBc9
        obtain ⟨xs, hxs⟩ : ∃ xs, xs = netsP area out ++ bordsP area self out := ⟨_, rfl⟩
        have hox : w9.ownsRow wc.heap.size 38 10 v9 xs.length (xs.flatMap yL) := by
          rw [hxs, List.length_append, List.flatMap_append]
          exact ho9
        have hx9 : ∀ x ∈ xs, x.1.n.kind = 2 ∧ x.1.n.area = area ∧ (∀ h ∈ x.2, hasB x.1.n.cost h R = true) ∧ Sl w9 M 3 (.slice x.1.A x.1.len x.1.cap) x.2.length (x.2.flatMap hopCells) := fun x hx => by
          rw [hxs] at hx
          obtain ⟨y, hy, rfl⟩ := rous_mem hx
          have hbk1 := hbk _ _ (hfo y hy)
          exact ⟨hbk1.1, rfl, fun h hh => backed_hasB hbk1 hh, (hH y hy).below hB9⟩
        have hxn : xs.length ≤ 2000 := by
          rw [hxs, List.length_append]
          omega
        have hM9 : M ≤ w9.heap.size := Nat.le_trans hMz hB9.size
        have kc9 := kc1.below hBcw kc1.lt
        have hBw9 : Below w.heap.size w w9 := hBw.trans (hBcw.mono hBw.size)
        have hW9 := Lib.hid (hW.below hBw9)
        have hzw9 := hBw9.size
        have hk9 := kc9.lt
        obtain ⟨-, vA, vc, rfl, -⟩ := id (Sl.of_own hox)
        replace hox := Lib.hid (Sl.of_own hox)
        replace hx9 := Lib.hid hx9
        replace CN0 := Lib.hid (fun (W2 : World) (h2 : Below w9.heap.size w9 W2) => CN0.out W2 (hBcw.trans (h2.mono hBcw.size)))
        replace CS0 := Lib.hid (fun (W2 : World) (h2 : Below w9.heap.size w9 W2) => CS0.out W2 (hBcw.trans (h2.mono hBcw.size)))
        clear hxs ho9 hg9 hob9 hn hb hfo hH hMb hB9 hBc9 hI hnl hbl hol hIz hbk hMz kc1 hBcw
        replace kc9 := Lib.hid kc9
        replace hBw9 := Lib.hid hBw9
        go_wp2_with fail
        go_loopg [5] xs.length (fun c iv wx => ∃ k : Nat, k ≤ xs.length ∧ c = xs.length - k ∧ iv = .int .i64 k ∧ Below w9.heap.size w9 wx)
        case atStart => exact ⟨0, Nat.zero_le _, rfl, rfl, Below.refl _ _⟩
        case round =>
          obtain ⟨k, hk, rfl, rfl, hBr⟩ := hrel
          obtain ⟨w1, rfl⟩ : ∃ x : World, x = wr := ⟨_, rfl⟩
          have hz1 := hBr.size
          by_cases hkx : k < xs.length
          · obtain ⟨b, off, rfl, hb0, hrow0⟩ := Sl.row yE.len hox.out hkx
            obtain ⟨hkd, har, hhb, hsl⟩ := hx9.out _ (List.getElem_mem hkx)
            have ik : (k : Int) < (xs.length : Int) := by omega
            obtain ⟨x, hx⟩ : ∃ x, x = xs[k] := ⟨_, rfl⟩
            rw [← hx] at hrow0 hkd har hhb hsl
            clear hx
            obtain ⟨⟨⟨x0, x1, x2, x3, x4, x5, x6, x7, x8⟩, xA, xn, xc⟩, xh⟩ := x
            simp only at hkd har
            subst hkd har
            obtain rfl : xn = xh.length := sl_len hsl
            dsimp only at hhb hsl
            have hxl := sl_max hsl
            replace hhb := Lib.hid hhb
            have g4 : ∀ W, Below w9.heap.size w9 W → W.cell? ⟨b, off + k * 10 + 4, none⟩ = some (.int .u8 2) := fun W h => (h.cell (p := ⟨b, off + k * 10 + 4, none⟩) hb0).trans (hrow0 4 _ rfl)
            have g5 : ∀ W, Below w9.heap.size w9 W → W.cell? ⟨b, off + k * 10 + 5, none⟩ = some (.int .u32 x5) := fun W h => (h.cell (p := ⟨b, off + k * 10 + 5, none⟩) hb0).trans (hrow0 5 _ rfl)
            have g6 := Lib.hid (fun (W : World) (h : Below w9.heap.size w9 W) => (h.cell (p := ⟨b, off + k * 10 + 6, none⟩) hb0).trans (hrow0 6 _ rfl))
            have g9 := Lib.hid (fun (W : World) (h : Below w9.heap.size w9 W) => (h.cell (p := ⟨b, off + k * 10 + 9, none⟩) hb0).trans (hrow0 9 _ rfl))
            have gc1 : ∀ W, Below w9.heap.size w9 W → W.cell? ⟨w.heap.size, 1, none⟩ = some (.int .u32 x5) := fun W h => (h.cell (p := ⟨w.heap.size, 1, none⟩) hk9).trans (kc9.out.cell 1)
            have gc3 := Lib.hid (fun (W : World) (h : Below w9.heap.size w9 W) => (h.cell (p := ⟨w.heap.size, 3, none⟩) hk9).trans (kc9.out.cell 3))
            simp only [List.getElem?_toArray, List.getElem?_cons_zero, List.getElem?_cons_succ] at gc3
            clear hrow0
            have q4 := g4 w1 hBr
            have q5 := g5 w1 hBr
            have c1 := gc1 w1 hBr
            clear g4 g5 gc1
            go_upto_region 8 with fail
            go_quiet (fail)
            clear q4 q5 c1
            go_wp2_with fail
            go_loopg [6] xh.length (fun c jv wx => ∃ j : Nat, j ≤ xh.length ∧ c = xh.length - j ∧ jv = .int .i64 j ∧ Below w9.heap.size w9 wx)
            case atStart => exact ⟨0, Nat.zero_le _, rfl, rfl, below_drewN hBr nq⟩
            case round =>
              clear hBr hz1
              obtain ⟨j, hj, rfl, rfl, hBj⟩ := hrel
              obtain ⟨w2, rfl⟩ : ∃ x : World, x = wr := ⟨_, rfl⟩
              have q9 := g9.out w2 hBj
              by_cases hjx : j < xh.length
              · obtain ⟨bh, oh, rfl, hbh, hrh⟩ := Sl.row hopCells_len hsl hjx
                have hbh9 : bh < w9.heap.size := by omega
                have hmem := hhb.out xh[j] (List.getElem_mem hjx)
                have ij : (j : Int) < (xh.length : Int) := by omega
                obtain ⟨h, hh⟩ : ∃ h, h = xh[j] := ⟨_, rfl⟩
                rw [← hh] at hrh hmem
                clear hh
                have gh0 := Lib.hid (fun (W : World) (h' : Below w9.heap.size w9 W) => (h'.cell (p := ⟨bh, oh + j * 3, none⟩) hbh9).trans (hrh 0 _ rfl))
                have gh1 := Lib.hid (fun (W : World) (h' : Below w9.heap.size w9 W) => (h'.cell (p := ⟨bh, oh + j * 3 + 1, none⟩) hbh9).trans (hrh 1 _ rfl))
                have gh2 := Lib.hid (fun (W : World) (h' : Below w9.heap.size w9 W) => (h'.cell (p := ⟨bh, oh + j * 3 + 2, none⟩) hbh9).trans (hrh 2 _ rfl))
                clear hrh
                replace hmem := Lib.hid hmem
                go_wp2_with fail
                go_loopg [7, 8] lw.length (fun c fv rv wx => ∃ r : Nat, r ≤ lw.length ∧ c = lw.length - r ∧ fv = .bool (hasB x6 h (R.take r)) ∧ rv = .int .i64 r ∧ Below w9.heap.size w9 wx)
                case atStart => exact ⟨0, Nat.zero_le _, rfl, rfl, rfl, hBj⟩
                case round =>
                  clear hBj q9
                  obtain ⟨r, hr, rfl, rfl, rfl, hBr⟩ := hrel
                  obtain ⟨w3, rfl⟩ : ∃ x : World, x = wr := ⟨_, rfl⟩
                  have c3 := gc3.out w3 hBr
                  by_cases hrl : r < lw.length
                  · have hrR : r < R.length := by rw [← hW9.out.len]; exact hrl
                    obtain ⟨b2, off2, rfl, hb2, hrow2⟩ := Sl.row wayL_len hW9.out.sl hrl
                    have hn2 := hW9.out.n r hrl hrR
                    have hsl2 := hW9.out.hops r hrl hrR
                    have ht2 : hasB x6 h (R.take (r + 1)) = (hasB x6 h (R.take r) || bord x6 R[r].1 && R[r].2.contains h) := by rw [List.take_succ_eq_append_getElem hrR, hasB_snoc]
                    have ir : (r : Int) < (lw.length : Int) := by omega
                    generalize hasB x6 h (R.take r) = f0 at *
                    obtain ⟨y, hy⟩ : ∃ y, y = lw[r] := ⟨_, rfl⟩
                    rw [← hy] at hrow2 hn2 hsl2
                    clear hy
                    obtain ⟨z, hz⟩ : ∃ z, z = R[r] := ⟨_, rfl⟩
                    rw [← hz] at hn2 hsl2 ht2
                    clear hz
                    obtain ⟨⟨y0, y1, y2, y3, y4, y5, y6, y7, y8⟩, yA, yn, yc⟩ := y
                    obtain ⟨z1, zh⟩ := z
                    simp only at hn2
                    subst hn2
                    obtain rfl : yn = zh.length := sl_len hsl2
                    dsimp only at hsl2 ht2
                    have hzl := sl_max hsl2
                    replace ht2 := Lib.hid ht2
                    have hb29 : b2 < w9.heap.size := by omega
                    have gr3 := Lib.hid (fun (W : World) (h' : Below w9.heap.size w9 W) => (h'.cell (p := ⟨b2, off2 + r * 10 + 3, none⟩) hb29).trans (hrow2 3 _ rfl))
                    have gr6 := Lib.hid (fun (W : World) (h' : Below w9.heap.size w9 W) => (h'.cell (p := ⟨b2, off2 + r * 10 + 6, none⟩) hb29).trans (hrow2 6 _ rfl))
                    have gr9 := Lib.hid (fun (W : World) (h' : Below w9.heap.size w9 W) => (h'.cell (p := ⟨b2, off2 + r * 10 + 9, none⟩) hb29).trans (hrow2 9 _ rfl))
                    clear hrow2
                    go_wp2_with fail
                    go_loopg [7, 9] zh.length (fun c fv mv wx => ∃ m : Nat, m ≤ zh.length ∧ c = zh.length - m ∧ fv = .bool (f0 || bord x6 ⟨y0, y1, y2, y3, y4, y5, y6, y7, y8⟩ && (zh.take m).contains h) ∧ mv = .int .i64 m ∧ Below w9.heap.size w9 wx)
                    case atStart => exact ⟨0, Nat.zero_le _, rfl, by simp, rfl, hBr⟩
                    case round =>
                      clear hBr c3
                      obtain ⟨m, hm, rfl, rfl, rfl, hBm⟩ := hrel
                      obtain ⟨w4, rfl⟩ : ∃ x : World, x = wr := ⟨_, rfl⟩
                      have c3 := gc3.out w4 hBm
                      have r9 := gr9.out w4 hBm
                      by_cases hml : m < zh.length
                      · obtain ⟨bq, oq, rfl, hbq, hrq⟩ := Sl.row hopCells_len hsl2 hml
                        have hbq9 : bq < w9.heap.size := by omega
                        have im : (m : Int) < (zh.length : Int) := by omega
                        have ht3 : (zh.take (m + 1)).contains h = ((zh.take m).contains h || decide (h = zh[m])) := by
                          rw [List.take_succ_eq_append_getElem hml, List.contains_append]
                          simp
                        obtain ⟨p, hp⟩ : ∃ p, p = zh[m] := ⟨_, rfl⟩
                        rw [← hp] at hrq ht3
                        clear hp
                        generalize (zh.take m).contains h = k0 at *
                        have e0 : w4.cell? ⟨bq, oq + m * 3, none⟩ = some (.int .u32 p.1) := (hBm.cell (p := ⟨bq, oq + m * 3, none⟩) hbq9).trans (hrq 0 _ rfl)
                        have e1 : w4.cell? ⟨bq, oq + m * 3 + 1, none⟩ = some (.int .u32 p.2.1) := (hBm.cell (p := ⟨bq, oq + m * 3 + 1, none⟩) hbq9).trans (hrq 1 _ rfl)
                        have e2 : w4.cell? ⟨bq, oq + m * 3 + 2, none⟩ = some (.bool p.2.2) := (hBm.cell (p := ⟨bq, oq + m * 3 + 2, none⟩) hbq9).trans (hrq 2 _ rfl)
                        clear hrq
                        replace ht3 := Lib.hid ht3
                        go_upto_region 21 with fail
                        have KX := Blk.new w4 46 #[.int .u32 p.1, .int .u32 p.2.1, .bool p.2.2]
                        have hB5 : Below w9.heap.size w9 (w4.alloc (.cells #[.int .u32 p.1, .int .u32 p.2.1, .bool p.2.2] 46)) := hBm.alloc hBm.size _
                        clear e0 e1 e2 c3 r9
                        generalize w4.alloc (.cells #[.int .u32 p.1, .int .u32 p.2.1, .bool p.2.2] 46) = w5 at *
                        have c3 := gc3.out w5 hB5
                        have a3 := gr3.out w5 hB5
                        have a6 := gr6.out w5 hB5
                        have s6 := g6.out w5 hB5
                        have s9 := g9.out w5 hB5
                        have h0 := gh0.out w5 hB5
                        have h1 := gh1.out w5 hB5
                        have h2 := gh2.out w5 hB5
                        have p0 := KX.cell 0
                        have p1 := KX.cell 1
                        have p2 := KX.cell 2
                        simp only [List.getElem?_toArray, List.getElem?_cons_zero, List.getElem?_cons_succ] at p0 p1 p2
                        have heq := fun W => eql_hop h p W
                        clear KX
                        have hfin : ∀ q : Bool, q = (f0 || bord x6 ⟨y0, y1, y2, y3, y4, y5, y6, y7, y8⟩ && k0 || bord x6 ⟨y0, y1, y2, y3, y4, y5, y6, y7, y8⟩ && decide (h = p)) → q = (f0 || bord x6 ⟨y0, y1, y2, y3, y4, y5, y6, y7, y8⟩ && (zh.take (m + 1)).contains h) := fun q hq => by
                          rw [hq, ht3.out]
                          cases f0 <;> cases bord x6 ⟨y0, y1, y2, y3, y4, y5, y6, y7, y8⟩ <;> cases k0 <;> rfl
                        replace hfin := Lib.hid hfin
                        have hbd : bord x6 ⟨y0, y1, y2, y3, y4, y5, y6, y7, y8⟩ = (bits BinOp.and IntKind.u8 y3 1 != 0 && decide (y6 ≤ x6)) := rfl
                        replace hbd := Lib.hid hbd
                        clear ht3
                        cases hf : (f0 || bord x6 ⟨y0, y1, y2, y3, y4, y5, y6, y7, y8⟩ && k0) with
                        | true =>
                          rw [hf] at hfin
                          go_quiet (fail)
                          go_wp2_with fail
                          go_roundg (zh.length - (m + 1))
                          case measure => omega
                          case rel => exact ⟨m + 1, by omega, rfl, congrArg Value.bool (hfin.out _ (by simp)), by go_num, below_drewN hB5 nq⟩
                        | false =>
                          rw [hf] at hfin
                          cases hfl : (bits BinOp.and IntKind.u8 y3 1 != 0) with
                          | false =>
                            have hb2 := hbd.out
                            rw [hfl] at hb2
                            replace hb2 := Lib.hid hb2
                            go_quiet (fail)
                            go_wp2_with fail
                            go_roundg (zh.length - (m + 1))
                            case measure => omega
                            case rel => exact ⟨m + 1, by omega, rfl, congrArg Value.bool (hfin.out _ (by rw [hb2.out]; simp)), by go_num, below_drewN hB5 nq⟩
                          | true =>
                            by_cases hco : y6 ≤ x6
                            · have hb2 := hbd.out
                              rw [hfl, decide_eq_true hco] at hb2
                              replace hb2 := Lib.hid hb2
                              cases hhp : decide (h = p) with
                              | true =>
                                rw [hhp] at heq
                                replace hhp := Lib.hid hhp
                                go_quiet (fail)
                                go_wp2_with fail
                                go_roundg (zh.length - (m + 1))
                                case measure => omega
                                case rel => exact ⟨m + 1, by omega, rfl, congrArg Value.bool (hfin.out _ (by rw [hb2.out, hhp.out]; simp)), by go_num, below_drewN hB5 nq⟩
                              | false =>
                                rw [hhp] at heq
                                replace hhp := Lib.hid hhp
                                go_quiet (fail)
                                go_wp2_with fail
                                go_roundg (zh.length - (m + 1))
                                case measure => omega
                                case rel => exact ⟨m + 1, by omega, rfl, congrArg Value.bool (hfin.out _ (by rw [hb2.out, hhp.out]; simp)), by go_num, below_drewN hB5 nq⟩
                            · have hb2 := hbd.out
                              rw [hfl, decide_eq_false hco] at hb2
                              replace hb2 := Lib.hid hb2
                              go_quiet (fail)
                              go_wp2_with fail
                              go_roundg (zh.length - (m + 1))
                              case measure => omega
                              case rel => exact ⟨m + 1, by omega, rfl, congrArg Value.bool (hfin.out _ (by rw [hb2.out]; simp)), by go_num, below_drewN hB5 nq⟩
                      · obtain rfl : m = zh.length := by omega
                        have im : ¬ (zh.length : Int) < (zh.length : Int) := by omega
                        rw [List.take_length, ← ht2.out]
                        go_wp2_with fail
                        go_roundg (lw.length - (r + 1))
                        case measure => omega
                        case rel => exact ⟨r + 1, by omega, rfl, rfl, by go_num, hBm⟩
                  · obtain rfl : r = lw.length := by omega
                    have ir : ¬ (lw.length : Int) < (lw.length : Int) := by omega
                    have hall : hasB x6 h (R.take lw.length) = true := by
                      rw [hW9.out.len, List.take_length]
                      exact hmem.out
                    rw [hall]
                    go_wp2_with fail
                    go_roundg (xh.length - (j + 1))
                    case measure => omega
                    case rel => exact ⟨j + 1, by omega, rfl, by go_num, hBr⟩
              · obtain rfl : j = xh.length := by omega
                have ij : ¬ (xh.length : Int) < (xh.length : Int) := by omega
                go_wp2_with fail
                go_roundg (xs.length - (k + 1))
                case measure => omega
                case rel => exact ⟨k + 1, by omega, rfl, by go_num, hBj⟩
          · obtain rfl : k = xs.length := by omega
            have ik : ¬ (xs.length : Int) < (xs.length : Int) := by omega
            have hBe : Below w.heap.size w w1 := hBw9.out.trans (hBr.mono hzw9)
            have kc1 := kc9.out.below hBr hk9
            go_upto_region 24 with fail
            refine wp_region_vals [some 144, some 145, some 146, some 147, some 148, some 149, some 150, some 151, some 143, some 152, some 153, some 11, some 12] (fun W => Below w1.heap.size w1 W) (fun W W' => Below W.heap.size W W') id (NonV w.heap.size sA ls.length sc area self S) hmix (by kernel_rfl) rfl (by decide) (by kernel_rfl) NonV.call (Below.refl _ _).drew ?_ ?_
            · intro t w' a' hI ha i hlt hd
              simp only [putFrom, Act.put, Nat.reduceAdd, List.setIfInBounds_toArray, List.set_cons_zero, List.set_cons_succ] at ha
              subst ha
              replace hlt : i < 13 := hlt
              have kcw := kc1.below hI (by omega)
              have hzw := hI.size
              have hJ : Below w9.heap.size w9 w' := hBr.trans (hI.mono hz1)
              rcases (show i = 0 ∨ i = 1 ∨ i = 2 ∨ i = 3 ∨ i = 4 ∨ i = 5 ∨ i = 6 ∨ i = 7 ∨ i = 8 ∨ i = 9 ∨ i = 10 ∨ i = 11 ∨ i = 12 by omega) with rfl | rfl | rfl | rfl | rfl | rfl | rfl | rfl | rfl | rfl | rfl | rfl | rfl
              · refine wpOp_step rfl (fun K' hK => ?_)
                replace hK := Lib.hid hK
                go_wp2
                exact hK.out _ _ ⟨(.pointer (some ⟨w.heap.size, 0, none⟩)), (by simp only [Act.put, List.getElem?_cons_zero, Option.getD_some, List.setIfInBounds_toArray, List.set_cons_zero, List.set_cons_succ]), hI, Below.refl _ _, rfl⟩
              · have d0 : t 0 = _ := hd 0 (by kernel_rfl)
                rw [d0]
                have hx := kcw.cell 0
                simp only [List.getElem?_toArray, List.getElem?_cons_zero] at hx
                refine wpOp_step rfl (fun K' hK => ?_)
                replace hK := Lib.hid hK
                go_wp2
                exact hK.out _ _ ⟨(.slice sA ls.length sc), (by simp only [Act.put, List.getElem?_cons_zero, List.getElem?_cons_succ, Option.getD_some, List.setIfInBounds_toArray, List.set_cons_zero, List.set_cons_succ]), hI, Below.refl _ _, rfl⟩
              · have d1 : t 1 = _ := hd 1 (by kernel_rfl)
                rw [d1]
                have CC := Lib.hid (CS0.out w' hJ)
                refine wpOp_step rfl (fun K' hK => ?_)
                replace hK := Lib.hid hK
                go_wp2_with (go_at_call 19; refine Calls.mono CC.out ?_; rintro e w4 ⟨vv, ys, rfl, hys, hSt⟩)
                have hst := hSt.states
                rw [hys] at hst
                obtain ⟨-, Av, cv, rfl, -⟩ := id (Sl.of_own hSt.own)
                exact hK.out _ _ ⟨_, (by simp only [Act.put, List.getElem?_cons_zero, List.getElem?_cons_succ, Option.getD_some, List.setIfInBounds_toArray, List.set_cons_zero, List.set_cons_succ]), hI.trans (hSt.below.mono hzw), hSt.below, ⟨Av, cv, ys, rfl, hys, hst⟩⟩
              · refine wpOp_step rfl (fun K' hK => ?_)
                replace hK := Lib.hid hK
                go_wp2
                exact hK.out _ _ ⟨(.pointer (some ⟨w.heap.size, 1, none⟩)), (by simp only [Act.put, List.getElem?_cons_zero, List.getElem?_cons_succ, Option.getD_some, List.setIfInBounds_toArray, List.set_cons_zero, List.set_cons_succ]), hI, Below.refl _ _, rfl⟩
              · have d3 : t 3 = _ := hd 3 (by kernel_rfl)
                rw [d3]
                have hx := kcw.cell 1
                simp only [List.getElem?_toArray, List.getElem?_cons_zero, List.getElem?_cons_succ] at hx
                refine wpOp_step rfl (fun K' hK => ?_)
                replace hK := Lib.hid hK
                go_wp2
                exact hK.out _ _ ⟨(.int .u32 area), (by simp only [Act.put, List.getElem?_cons_zero, List.getElem?_cons_succ, Option.getD_some, List.setIfInBounds_toArray, List.set_cons_zero, List.set_cons_succ]), hI, Below.refl _ _, rfl⟩
              · refine wpOp_step rfl (fun K' hK => ?_)
                replace hK := Lib.hid hK
                go_wp2
                exact hK.out _ _ ⟨(.pointer (some ⟨w.heap.size, 2, none⟩)), (by simp only [Act.put, List.getElem?_cons_zero, List.getElem?_cons_succ, Option.getD_some, List.setIfInBounds_toArray, List.set_cons_zero, List.set_cons_succ]), hI, Below.refl _ _, rfl⟩
              · have d5 : t 5 = _ := hd 5 (by kernel_rfl)
                rw [d5]
                have hx := kcw.cell 2
                simp only [List.getElem?_toArray, List.getElem?_cons_zero, List.getElem?_cons_succ] at hx
                refine wpOp_step rfl (fun K' hK => ?_)
                replace hK := Lib.hid hK
                go_wp2
                exact hK.out _ _ ⟨(.int .u32 self), (by simp only [Act.put, List.getElem?_cons_zero, List.getElem?_cons_succ, Option.getD_some, List.setIfInBounds_toArray, List.set_cons_zero, List.set_cons_succ]), hI, Below.refl _ _, rfl⟩
              · obtain ⟨A1, c1, ys, d2, hys, hst⟩ := hd 2 (by kernel_rfl)
                rw [d2]
                have d4 : t 4 = _ := hd 4 (by kernel_rfl)
                rw [d4]
                have d6 : t 6 = _ := hd 6 (by kernel_rfl)
                rw [d6]
                have CC := Lib.hid (CN0.out w' hJ A1 c1 ys hys hst)
                refine wpOp_step rfl (fun K' hK => ?_)
                replace hK := Lib.hid hK
                go_wp2_with (go_at_call 20; refine Calls.mono CC.out ?_; rintro e wj ⟨za, zb, zc, zd, rfl, hBj⟩)
                exact hK.out _ _ ⟨(.tuple #[.slice za 0 zb, .slice zc 0 zd]), (by simp only [Act.put, List.getElem?_cons_zero, List.getElem?_cons_succ, Option.getD_some, List.setIfInBounds_toArray, List.set_cons_zero, List.set_cons_succ]), hI.trans (hBj.mono hzw), hBj, ⟨za, zb, zc, zd, rfl⟩⟩
              · obtain ⟨za, zb, zc, zd, d7⟩ := hd 7 (by kernel_rfl)
                rw [d7]
                refine wpOp_step rfl (fun K' hK => ?_)
                replace hK := Lib.hid hK
                go_wp2
                exact hK.out _ _ ⟨(.tuple #[.slice za 0 zb, .slice zc 0 zd]), (by simp only [Act.put, List.getElem?_cons_zero, List.getElem?_cons_succ, Option.getD_some, List.setIfInBounds_toArray, List.set_cons_zero, List.set_cons_succ]), hI, Below.refl _ _, ⟨za, zb, zc, zd, rfl⟩⟩
              · obtain ⟨za, zb, zc, zd, d8⟩ := hd 8 (by kernel_rfl)
                rw [d8]
                refine wpOp_step rfl (fun K' hK => ?_)
                replace hK := Lib.hid hK
                go_wp2
                exact hK.out _ _ ⟨(.slice za 0 zb), (by simp only [Act.put, List.getElem?_cons_zero, List.getElem?_cons_succ, Option.getD_some, List.setIfInBounds_toArray, List.set_cons_zero, List.set_cons_succ]), hI, Below.refl _ _, ⟨za, zb, rfl⟩⟩
              · obtain ⟨za, zb, zc, zd, d8⟩ := hd 8 (by kernel_rfl)
                rw [d8]
                refine wpOp_step rfl (fun K' hK => ?_)
                replace hK := Lib.hid hK
                go_wp2
                exact hK.out _ _ ⟨(.slice zc 0 zd), (by simp only [Act.put, List.getElem?_cons_zero, List.getElem?_cons_succ, Option.getD_some, List.setIfInBounds_toArray, List.set_cons_zero, List.set_cons_succ]), hI, Below.refl _ _, ⟨zc, zd, rfl⟩⟩
              · obtain ⟨za, zb, d9⟩ := hd 9 (by kernel_rfl)
                rw [d9]
                refine wpOp_step rfl (fun K' hK => ?_)
                replace hK := Lib.hid hK
                go_wp2
                exact hK.out _ _ ⟨(.slice za 0 zb), (by simp only [Act.put, List.getElem?_cons_zero, List.getElem?_cons_succ, Option.getD_some, List.setIfInBounds_toArray, List.set_cons_zero, List.set_cons_succ]), hI, Below.refl _ _, ⟨za, zb, rfl⟩⟩
              · obtain ⟨za, zb, d10⟩ := hd 10 (by kernel_rfl)
                rw [d10]
                refine wpOp_step rfl (fun K' hK => ?_)
                replace hK := Lib.hid hK
                go_wp2
                exact hK.out _ _ ⟨(.slice za 0 zb), (by simp only [Act.put, List.getElem?_cons_zero, List.getElem?_cons_succ, Option.getD_some, List.setIfInBounds_toArray, List.set_cons_zero, List.set_cons_succ]), hI, Below.refl _ _, ⟨za, zb, rfl⟩⟩
            · intro t w2 a' hI ha hv
              simp only [putFrom, Act.put, Nat.reduceAdd, List.setIfInBounds_toArray, List.set_cons_zero, List.set_cons_succ] at ha
              subst ha
              obtain ⟨a6, b6, h6⟩ := hv 11 (by decide)
              obtain ⟨a7, b7, h7⟩ := hv 12 (by decide)
              rw [h6, h7]
              clear hv h6 h7
              replace hBe := hBe.trans (hI.mono hBe.size)
              go_wp2_with (go_at_call 16; refine Calls.mono (works19_any _) ?_; rintro e w3 ⟨rfl, hB3⟩)
              go_ret
              exact ⟨rfl, hBe.trans (hB3.mono hBe.size)⟩
    · go_wp2_with (go_at_call 16; refine Calls.mono (works19_any _) ?_; rintro e w3 ⟨rfl, hB3⟩)
      go_ret
      exact ⟨rfl, hBw.trans (hB3.mono hBw.size)⟩
end Go.Proofs.YtiikagabdiphkaaGreat
