/- BetweenShorter's walk: improving makes no way longer, and is done when it is done once. Conditions: the ways, their hops, the states and their bodies lie in memory. -/
import Derived.Test.YtiikagabdiphkaaGreatGuaN
import Derived.Test.YtiikagabdiphkaaGreatShoP
namespace Go.Proofs.YtiikagabdiphkaaGreat
open Go.RowKit Go.Lo

theorem neq_preS (a b : Int) (w : World) : (binOp .neq 35 (.agg #[.int .u32 a, .int .u8 b]) (.agg #[.int .u32 a, .int .u8 b])).run Tryz.prog w = .ok (.bool false) w := by
  rw [run_neq_struct, run_equalIn_agg _ _ _ _ _ (by kernel_rfl) (by kernel_rfl)]
  go_simp

/-- what the law's guard says -/
def Guard3 (ls : List StV) (lw ll : List WayV) (w0 : World) (v : Value) (wx : World) : Prop := ∃ q : Bool, v = .bool q ∧ (q = false → (ls.length ≤ 60 ∧ ∀ x ∈ ls, x.len ≤ 8192) ∧ (lw.length ≤ 60 ∧ ∀ x ∈ lw, x.len ≤ 400) ∧ ll.length ≤ 60 ∧ ∀ x ∈ ll, x.len ≤ 400) ∧ Below w0.heap.size w0 wx

/-- ways that Improve has handed back, as they stay -/
def ImpW (base : Nat) (G : List WayG) (xs : List WayY) (v : Value) (W : World) : Prop :=
  W.ownsRow base 38 10 v xs.length (xs.flatMap yL) ∧ (∀ x ∈ xs, HopsAt x W) ∧ gOf xs = G
theorem ImpW.call {base : Nat} {G : List WayG} {xs : List WayY} {v : Value} {W W' : World} (hB : Below W.heap.size W W') (h : ImpW base G xs v W) : ImpW base G xs v W' := ⟨own_below h.1 hB, fun x hx => HopsAt.call (h.2.1 x hx) hB, h.2.2⟩
theorem ImpW.of {base : Nat} {f : K3 → Option WayG} {G : List WayG} {w w' : World} {e : Ending} (h : ImpPost f G w e w') (hb : base ≤ w.heap.size) : ∃ v xs, e = .returned v ∧ ImpW base (G.map (improveP f)) xs v w' ∧ Below w.heap.size w w' := by
  obtain ⟨v, xs, rfl, h1, h2, h3, h4⟩ := h
  exact ⟨v, xs, rfl, ⟨own_less h1 hb, h2, h3⟩, h4⟩
theorem ImpW.ways {base : Nat} {G : List WayG} {xs : List WayY} {v : Value} {W : World} (h : ImpW base G xs v W) : WaysIn W W.heap.size v G (xs.map (·.1)) := by
  obtain ⟨h1, h2, rfl⟩ := h
  refine ⟨?_, ?_, fun k hk hk2 => ?_⟩
  · have := Sl.of_own h1
    rw [List.length_map, List.flatMap_map]
    exact this
  · simp [gOf]
  · have hk3 : k < xs.length := by simpa using hk
    have := h2 xs[k] (List.getElem_mem hk3)
    simp only [List.getElem_map, gOf]
    exact this

/-- what the operations of the first region leave -/
def ShoV (g : Nat) (aA : Option Addr) (an ac : Nat) (sA : Option Addr) (sn sc : Nat) (self : Int) (lA : Option Addr) (ln lc : Nat) (S : List StG) (R L : List WayG) (base : Nat) (f : K3 → Option WayG) : Nat → Value → Value → World → Prop
  | 0, v, _, _ => v = .slice aA an ac
  | 1, v, _, W => ∃ (A : Option Addr) (c : Nat) (xs : List WayY), v = .slice A xs.length c ∧ WaysIn W W.heap.size (.slice A xs.length c) L (xs.map (·.1))
  | 2, v, _, _ => v = .pointer (some ⟨g, 0, none⟩)
  | 3, v, _, _ => v = .slice sA sn sc
  | 4, v, _, W => ∃ (A : Option Addr) (c : Nat) (ys : List StY), v = .slice A ys.length c ∧ sOf ys = S ∧ StatesIn W W.heap.size (.slice A ys.length c) S (ys.map (·.1))
  | 5, v, _, _ => v = .pointer (some ⟨g, 2, none⟩)
  | 6, v, _, _ => v = .int .u32 self
  | 7, v, _, _ => v = .pointer (some ⟨g, 3, none⟩)
  | 8, v, _, _ => v = .slice lA ln lc
  | 9, v, _, W => ∃ (A : Option Addr) (c : Nat) (xs : List WayY), v = .slice A xs.length c ∧ WaysIn W W.heap.size (.slice A xs.length c) R (xs.map (·.1))
  | 10, v, _, W => ∃ xs, ImpW base (L.map (improveP f)) xs v W
  | 11, v, u, _ => v = u
  | _, _, _, _ => True
theorem ShoV.call {g : Nat} {aA : Option Addr} {an ac : Nat} {sA : Option Addr} {sn sc : Nat} {self : Int} {lA : Option Addr} {ln lc : Nat} {S : List StG} {R L : List WayG} {base : Nat} {f : K3 → Option WayG} : ∀ (i : Nat) (v u : Value) (W W' : World), Below W.heap.size W W' → ShoV g aA an ac sA sn sc self lA ln lc S R L base f i v u W → ShoV g aA an ac sA sn sc self lA ln lc S R L base f i v u W'
  | 0, _, _, _, _, _, h => h
  | 1, _, _, _, _, hB, ⟨A, c, xs, h1, h2⟩ => ⟨A, c, xs, h1, (h2.below hB).more hB.size⟩
  | 2, _, _, _, _, _, h => h
  | 3, _, _, _, _, _, h => h
  | 4, _, _, _, _, hB, ⟨A, c, ys, h1, h2, h3⟩ => ⟨A, c, ys, h1, h2, (h3.below hB).more hB.size⟩
  | 5, _, _, _, _, _, h => h
  | 6, _, _, _, _, _, h => h
  | 7, _, _, _, _, _, h => h
  | 8, _, _, _, _, _, h => h
  | 9, _, _, _, _, hB, ⟨A, c, xs, h1, h2⟩ => ⟨A, c, xs, h1, (h2.below hB).more hB.size⟩
  | 10, _, _, _, _, hB, ⟨xs, h1⟩ => ⟨xs, h1.call hB⟩
  | 11, _, _, _, _, _, h => h
  | _ + 12, _, _, _, _, _, _ => trivial
/-- which value an operation's own hangs on -/
def shoD : Nat → Nat
  | 11 => 10
  | n => n
/-- what the operations of the second region leave -/
def TwiV (g : Nat) (xv : Value) (sA : Option Addr) (sn sc : Nat) (self : Int) (lA : Option Addr) (ln lc : Nat) (S : List StG) (R L : List WayG) (base : Nat) (f : K3 → Option WayG) : Nat → Value → Value → World → Prop
  | 0, v, _, _ => v = xv
  | 1, v, _, _ => v = .pointer (some ⟨g, 0, none⟩)
  | 2, v, _, _ => v = .slice sA sn sc
  | 3, v, _, W => ∃ (A : Option Addr) (c : Nat) (ys : List StY), v = .slice A ys.length c ∧ sOf ys = S ∧ StatesIn W W.heap.size (.slice A ys.length c) S (ys.map (·.1))
  | 4, v, _, _ => v = .pointer (some ⟨g, 2, none⟩)
  | 5, v, _, _ => v = .int .u32 self
  | 6, v, _, _ => v = .pointer (some ⟨g, 3, none⟩)
  | 7, v, _, _ => v = .slice lA ln lc
  | 8, v, _, W => ∃ (A : Option Addr) (c : Nat) (xs : List WayY), v = .slice A xs.length c ∧ WaysIn W W.heap.size (.slice A xs.length c) R (xs.map (·.1))
  | 9, v, _, W => ∃ xs, ImpW base (L.map (improveP f)) xs v W
  | 10, v, u, _ => v = u
  | _, _, _, _ => True
theorem TwiV.call {g : Nat} {xv : Value} {sA : Option Addr} {sn sc : Nat} {self : Int} {lA : Option Addr} {ln lc : Nat} {S : List StG} {R L : List WayG} {base : Nat} {f : K3 → Option WayG} : ∀ (i : Nat) (v u : Value) (W W' : World), Below W.heap.size W W' → TwiV g xv sA sn sc self lA ln lc S R L base f i v u W → TwiV g xv sA sn sc self lA ln lc S R L base f i v u W'
  | 0, _, _, _, _, _, h => h
  | 1, _, _, _, _, _, h => h
  | 2, _, _, _, _, _, h => h
  | 3, _, _, _, _, hB, ⟨A, c, ys, h1, h2, h3⟩ => ⟨A, c, ys, h1, h2, (h3.below hB).more hB.size⟩
  | 4, _, _, _, _, _, h => h
  | 5, _, _, _, _, _, h => h
  | 6, _, _, _, _, _, h => h
  | 7, _, _, _, _, _, h => h
  | 8, _, _, _, _, hB, ⟨A, c, xs, h1, h2⟩ => ⟨A, c, xs, h1, (h2.below hB).more hB.size⟩
  | 9, _, _, _, _, hB, ⟨xs, h1⟩ => ⟨xs, h1.call hB⟩
  | 10, _, _, _, _, _, h => h
  | _ + 11, _, _, _, _, _, _ => trivial
/-- which value an operation's own hangs on -/
def twiD : Nat → Nat
  | 10 => 9
  | n => n

set_option maxRecDepth 100000 in
set_option maxHeartbeats 16000000 in
theorem betweenShorter_any (L : List WayG) (ll : List WayV) (av : Value) (S : List StG) (ls : List StV) (sv : Value) (area self : Int) (R : List WayG) (lw : List WayV) (lv : Value) (w : World) (hL : WaysIn w w.heap.size av L ll) (hLo : ArgR L) (hLk : ∀ g ∈ L, InK (keyG g.1)) (hll : ll.length ≤ 2000000) (hS : StatesIn w w.heap.size sv S ls) (hSo : ArgS S) (hls : ls.length ≤ 2000000) (_hself : 0 ≤ self ∧ self < 4294967296) (hW : WaysIn w w.heap.size lv R lw) (hRo : ArgR R) (hlw : lw.length ≤ 2000000) :
    Calls Tryz.prog 3 #[av, .agg #[sv, .int .u32 area, .int .u32 self, lv]] w fun e w' => e = .returned (.bool true) ∧ Below w.heap.size w w' := by
  obtain ⟨-, aA, ac, rfl, -⟩ := id hL.sl
  obtain ⟨-, sA, sc, rfl, -⟩ := id hS.sl
  obtain ⟨-, lA, lc, rfl, -⟩ := id hW.sl
  have hB0 : Below w.heap.size w (w.alloc (.cells #[.slice sA ls.length sc, .int .u32 area, .int .u32 self, .slice lA lw.length lc] 26)) := Below.alloc (Below.refl _ _) (Nat.le_refl _) _
  have kc := Blk.new w 26 #[.slice sA ls.length sc, .int .u32 area, .int .u32 self, .slice lA lw.length lc]
  go_enter Tryz.func3, Tryz.ntmps3
  go_upto_region 1 with fail
  generalize w.alloc (.cells #[.slice sA ls.length sc, .int .u32 area, .int .u32 self, .slice lA lw.length lc] 26) = w0 at *
  have hz0 := hB0.size
  have hS0 := hS.below hB0
  have hW0 := hW.below hB0
  have hL0 := hL.below hB0
  have x0 := kc.cell 0
  have x3 := kc.cell 3
  simp only [List.getElem?_toArray, List.getElem?_cons_zero, List.getElem?_cons_succ] at x0 x3
  have CH := Lib.hid (heavy19_any ls _ w.heap.size w0 hS0.sl hls (hS0.lens fun s hs => (hSo s hs).2.1))
  have CB := Lib.hid (big19_any lw _ w.heap.size w0 hW0.sl hz0 (by omega) (hW0.bigs hRo))
  have CL := Lib.hid (fun (W : World) (h : Below w0.heap.size w0 W) => big19_any ll _ w.heap.size W (hL0.below (h.mono hz0)).sl (Nat.le_trans hz0 h.size) (by omega) ((hL0.below (h.mono hz0)).bigs hLo))
  go_cut [19] (fun v wx => Guard3 ls lw ll w0 v wx)
  case first =>
    go_wp2_with (first
      | (go_at_call 14; refine Calls.mono CH.out ?_; rintro e w1 ⟨q1, rfl, rfl, hq1⟩; cases q1)
      | (go_at_call 15; (have _q := hB2); refine Calls.mono (CL.out _ hB2) ?_; rintro e w3 ⟨q3, rfl, hq3, hB3⟩)
      | (go_at_call 15; refine Calls.mono CB.out ?_; rintro e w2 ⟨q2, rfl, hq2, hB2⟩; cases q2)
      | fail)
    · go_meet
      case rel => exact ⟨q3, rfl, fun h => ⟨hq1 (by first | rfl | trivial), hq2 (by first | rfl | trivial), hq3 h⟩, hB2.trans (hB3.mono hB2.size)⟩
    · go_meet
      case rel => exact ⟨true, rfl, fun h => (by cases h), hB2⟩
    · go_meet
      case rel => exact ⟨true, rfl, fun h => (by cases h), Below.refl _ _⟩
  case rest =>
    obtain ⟨q, rfl, hq, hBc⟩ := hcut
    have hBw := hB0.trans (hBc.mono hz0)
    cases q
    · obtain ⟨⟨h60, h8⟩, ⟨hw60, hw4⟩, hl60, hl4⟩ := hq rfl
      have kc1 := Blk.call hBc kc
      clear CH CB CL x0 x3 hq
      have hmix : (Tryz.prog).follows .mixedOrders = true := by kernel_rfl
      have hzc := hBc.size
      have h400 : ∀ (Q : List WayG) (l : List WayV) (lv : Value), WaysIn w w.heap.size lv Q l → (∀ x ∈ l, x.len ≤ 400) → ∀ r ∈ Q, r.2.length ≤ 400 := fun Q l lv hq h4 r hr => by
        obtain ⟨j, hj, rfl⟩ := List.mem_iff_getElem.1 hr
        have hj2 : j < l.length := by rw [hq.len]; exact hj
        have h3 := h4 _ (List.getElem_mem hj2)
        rw [sl_len (hq.hops j hj2 hj)] at h3
        exact h3
      have hR400 := h400 R lw _ hW hw4
      have hL400 := h400 L ll _ hL hl4
      have hRl : R.length ≤ 60 := by rw [← hW.len]; exact hw60
      have hSl : S.length ≤ 60 := by rw [← hS.len]; exact h60
      have hSk : ∀ x ∈ S, StOk x := fun s hs => ⟨(hSo s hs).1, by have := (hSo s hs).2.1; omega, (hSo s hs).2.2⟩
      have hLL : ll.length = L.length := hL.len
      have CS0 : ∀ W2, Below w0.heap.size w0 W2 → Calls Tryz.prog 19 #[.slice sA ls.length sc] W2 fun e w' => ∃ v ys, e = .returned v ∧ sOf ys = S ∧ StR W2 ys v w' := fun W2 h2 => copystates_any w.heap.size _ S ls W2 (hS.below (hB0.trans (h2.mono hz0))) (by have := h2.size; omega) (fun s hs => (hSo s hs).2.1) hls
      have CW0 : ∀ W2, Below w0.heap.size w0 W2 → Calls Tryz.prog 18 #[.slice lA lw.length lc] W2 fun e w' => ∃ v xs, e = .returned v ∧ gOf xs = R ∧ ImpR W2 xs v w' := fun W2 h2 => ways19_any w.heap.size _ R lw W2 (hW.below (hB0.trans (h2.mono hz0))) (by have := h2.size; omega) (fun r hr => (hRo r hr).2.2) hlw
      have CA0 : ∀ W2, Below w0.heap.size w0 W2 → Calls Tryz.prog 18 #[.slice aA ll.length ac] W2 fun e w' => ∃ v xs, e = .returned v ∧ gOf xs = L ∧ ImpR W2 xs v w' := fun W2 h2 => ways19_any w.heap.size _ L ll W2 (hL.below (hB0.trans (h2.mono hz0))) (by have := h2.size; omega) (fun r hr => (hLo r hr).2.2) hll
      have CI0 : ∀ (G : List WayG), (∀ g ∈ G, InK (keyG g.1)) → (∀ g ∈ G, g.2.length ≤ 300000) → ∀ W2, Below w0.heap.size w0 W2 → ∀ (A0 : Option Addr) (c0 : Nat) (zs : List WayY) (A1 : Option Addr) (c1 : Nat) (ys : List StY) (A : Option Addr) (c : Nat) (xs : List WayY), zs.length ≤ 1000000 → WaysIn W2 W2.heap.size (.slice A0 zs.length c0) G (zs.map (·.1)) → StatesIn W2 W2.heap.size (.slice A1 ys.length c1) S (ys.map (·.1)) → WaysIn W2 W2.heap.size (.slice A xs.length c) R (xs.map (·.1)) → Calls Tryz.prog 17 #[.slice A0 zs.length c0, .slice A1 ys.length c1, .int .u32 self, .slice A xs.length c] W2 fun e w' => ∃ v xs, e = .returned v ∧ ImpW w0.heap.size (G.map (improveP (bestF (leadsP S self R)))) xs v w' ∧ Below W2.heap.size W2 w' := fun G hGk hGh W2 h2 A0 c0 zs A1 c1 ys A c xs hzn hwz hst hwx => by
        have C := improve_any 400 W2.heap.size A0 c0 G (zs.map (·.1)) A1 c1 S (ys.map (·.1)) self A c R (xs.map (·.1)) W2 hR400 (by omega) (by omega) (by rw [List.length_map]; exact hwz) hGk hGh (by rw [List.length_map]; exact hzn) (by rw [List.length_map]; exact hst) hSk (by rw [List.length_map]; exact hwx) ⟨fun r hr => (hRo r hr).1, fun r hr => by have := hR400 r hr; omega, by omega⟩ (Nat.le_refl _)
        rw [List.length_map, List.length_map, List.length_map] at C
        exact Calls.mono C fun e w' h => ImpW.of h h2.size
      have hfl := leadsP_len hSk hR400 self (show 400 * S.length ≤ 100000 by omega)
      generalize bestF (leadsP S self R) = f at *
      have CI1 := Lib.hid (CI0 L hLk (fun g hg => by have := hL400 g hg; omega))
      have CI2 := Lib.hid (CI0 (L.map (improveP f)) (fun g hg => by obtain ⟨g0, hg0, rfl⟩ := List.mem_map.1 hg; rw [improveP_key]; exact hLk g0 hg0) (fun g hg => by obtain ⟨g0, hg0, rfl⟩ := List.mem_map.1 hg; have := improveP_len hfl (hL400 g0 hg0); omega))
      clear CI0 hfl
      replace CS0 := Lib.hid CS0
      replace CW0 := Lib.hid CW0
      replace CA0 := Lib.hid CA0
      replace hLL := Lib.hid hLL
      go_upto_region 3 with fail
      refine wp_region_vals [some 21, some 22, some 23, some 24, some 25, some 26, some 27, some 28, some 29, some 30, some 31, some 5] (fun W => Below w0.heap.size w0 W) (fun W W' => Below W.heap.size W W') shoD (ShoV w.heap.size aA ll.length ac sA ls.length sc self lA lw.length lc S R L w0.heap.size f) hmix (by kernel_rfl) rfl (by decide) (by kernel_rfl) ShoV.call hBc.drew ?_ ?_
      · intro t w' a' hI ha i hlt hd
        simp only [putFrom, Act.put, Nat.reduceAdd, List.setIfInBounds_toArray, List.set_cons_zero, List.set_cons_succ] at ha
        subst ha
        replace hlt : i < 12 := hlt
        have kcw := kc.below hI kc.lt
        have hzw := hI.size
        rcases (show i = 0 ∨ i = 1 ∨ i = 2 ∨ i = 3 ∨ i = 4 ∨ i = 5 ∨ i = 6 ∨ i = 7 ∨ i = 8 ∨ i = 9 ∨ i = 10 ∨ i = 11 by omega) with rfl | rfl | rfl | rfl | rfl | rfl | rfl | rfl | rfl | rfl | rfl | rfl
        · refine wpOp_step rfl (fun K' hK => ?_)
          replace hK := Lib.hid hK
          go_wp2
          exact hK.out _ _ ⟨(.slice aA ll.length ac), (by simp only [Act.put, List.getElem?_cons_zero, Option.getD_some, List.setIfInBounds_toArray, List.set_cons_zero, List.set_cons_succ]), hI, Below.refl _ _, rfl⟩
        · have d0 : t 0 = _ := hd 0 (by kernel_rfl)
          rw [d0]
          have CC := Lib.hid (CA0.out w' hI)
          refine wpOp_step rfl (fun K' hK => ?_)
          replace hK := Lib.hid hK
          go_wp2_with (go_at_call 18; refine Calls.mono CC.out ?_; rintro e w4 ⟨vv, xs, rfl, hgx, hIx⟩)
          have hwx := hIx.ways
          rw [hgx] at hwx
          obtain ⟨-, Av, cv, rfl, -⟩ := id (Sl.of_own hIx.own)
          exact hK.out _ _ ⟨_, (by simp only [Act.put, List.getElem?_cons_zero, List.getElem?_cons_succ, Option.getD_some, List.setIfInBounds_toArray, List.set_cons_zero, List.set_cons_succ]), hI.trans (hIx.below.mono hzw), hIx.below, ⟨Av, cv, xs, rfl, hwx⟩⟩
        · refine wpOp_step rfl (fun K' hK => ?_)
          replace hK := Lib.hid hK
          go_wp2
          exact hK.out _ _ ⟨(.pointer (some ⟨w.heap.size, 0, none⟩)), (by simp only [Act.put, List.getElem?_cons_zero, List.getElem?_cons_succ, Option.getD_some, List.setIfInBounds_toArray, List.set_cons_zero, List.set_cons_succ]), hI, Below.refl _ _, rfl⟩
        · have d2 : t 2 = _ := hd 2 (by kernel_rfl)
          rw [d2]
          have hx := kcw.cell 0
          simp only [List.getElem?_toArray, List.getElem?_cons_zero] at hx
          refine wpOp_step rfl (fun K' hK => ?_)
          replace hK := Lib.hid hK
          go_wp2
          exact hK.out _ _ ⟨(.slice sA ls.length sc), (by simp only [Act.put, List.getElem?_cons_zero, List.getElem?_cons_succ, Option.getD_some, List.setIfInBounds_toArray, List.set_cons_zero, List.set_cons_succ]), hI, Below.refl _ _, rfl⟩
        · have d3 : t 3 = _ := hd 3 (by kernel_rfl)
          rw [d3]
          have CC := Lib.hid (CS0.out w' hI)
          refine wpOp_step rfl (fun K' hK => ?_)
          replace hK := Lib.hid hK
          go_wp2_with (go_at_call 19; refine Calls.mono CC.out ?_; rintro e w4 ⟨vv, ys, rfl, hys, hSt⟩)
          have hst := hSt.states
          rw [hys] at hst
          obtain ⟨-, Av, cv, rfl, -⟩ := id (Sl.of_own hSt.own)
          exact hK.out _ _ ⟨_, (by simp only [Act.put, List.getElem?_cons_zero, List.getElem?_cons_succ, Option.getD_some, List.setIfInBounds_toArray, List.set_cons_zero, List.set_cons_succ]), hI.trans (hSt.below.mono hzw), hSt.below, ⟨Av, cv, ys, rfl, hys, hst⟩⟩
        · refine wpOp_step rfl (fun K' hK => ?_)
          replace hK := Lib.hid hK
          go_wp2
          exact hK.out _ _ ⟨(.pointer (some ⟨w.heap.size, 2, none⟩)), (by simp only [Act.put, List.getElem?_cons_zero, List.getElem?_cons_succ, Option.getD_some, List.setIfInBounds_toArray, List.set_cons_zero, List.set_cons_succ]), hI, Below.refl _ _, rfl⟩
        · have d5 : t 5 = _ := hd 5 (by kernel_rfl)
          rw [d5]
          have hx := kcw.cell 2
          simp only [List.getElem?_toArray, List.getElem?_cons_zero, List.getElem?_cons_succ] at hx
          refine wpOp_step rfl (fun K' hK => ?_)
          replace hK := Lib.hid hK
          go_wp2
          exact hK.out _ _ ⟨(.int .u32 self), (by simp only [Act.put, List.getElem?_cons_zero, List.getElem?_cons_succ, Option.getD_some, List.setIfInBounds_toArray, List.set_cons_zero, List.set_cons_succ]), hI, Below.refl _ _, rfl⟩
        · refine wpOp_step rfl (fun K' hK => ?_)
          replace hK := Lib.hid hK
          go_wp2
          exact hK.out _ _ ⟨(.pointer (some ⟨w.heap.size, 3, none⟩)), (by simp only [Act.put, List.getElem?_cons_zero, List.getElem?_cons_succ, Option.getD_some, List.setIfInBounds_toArray, List.set_cons_zero, List.set_cons_succ]), hI, Below.refl _ _, rfl⟩
        · have d7 : t 7 = _ := hd 7 (by kernel_rfl)
          rw [d7]
          have hx := kcw.cell 3
          simp only [List.getElem?_toArray, List.getElem?_cons_zero, List.getElem?_cons_succ] at hx
          refine wpOp_step rfl (fun K' hK => ?_)
          replace hK := Lib.hid hK
          go_wp2
          exact hK.out _ _ ⟨(.slice lA lw.length lc), (by simp only [Act.put, List.getElem?_cons_zero, List.getElem?_cons_succ, Option.getD_some, List.setIfInBounds_toArray, List.set_cons_zero, List.set_cons_succ]), hI, Below.refl _ _, rfl⟩
        · have d8 : t 8 = _ := hd 8 (by kernel_rfl)
          rw [d8]
          have CC := Lib.hid (CW0.out w' hI)
          refine wpOp_step rfl (fun K' hK => ?_)
          replace hK := Lib.hid hK
          go_wp2_with (go_at_call 18; refine Calls.mono CC.out ?_; rintro e w4 ⟨vv, xs, rfl, hgx, hIx⟩)
          have hwx := hIx.ways
          rw [hgx] at hwx
          obtain ⟨-, Av, cv, rfl, -⟩ := id (Sl.of_own hIx.own)
          exact hK.out _ _ ⟨_, (by simp only [Act.put, List.getElem?_cons_zero, List.getElem?_cons_succ, Option.getD_some, List.setIfInBounds_toArray, List.set_cons_zero, List.set_cons_succ]), hI.trans (hIx.below.mono hzw), hIx.below, ⟨Av, cv, xs, rfl, hwx⟩⟩
        · obtain ⟨A0, c0, zs, d1, hwz⟩ := hd 1 (by kernel_rfl)
          rw [d1]
          obtain ⟨A1, c1, ys, d4, hys, hst⟩ := hd 4 (by kernel_rfl)
          rw [d4]
          have d6 : t 6 = _ := hd 6 (by kernel_rfl)
          rw [d6]
          obtain ⟨A2, c2, xs, d9, hwx⟩ := hd 9 (by kernel_rfl)
          rw [d9]
          have hzn : zs.length ≤ 1000000 := by
            have h1 := hwz.len
            have h2 := hLL.out
            rw [List.length_map] at h1
            omega
          have CC := Lib.hid (CI1.out w' hI A0 c0 zs A1 c1 ys A2 c2 xs hzn hwz hst hwx)
          refine wpOp_step rfl (fun K' hK => ?_)
          replace hK := Lib.hid hK
          go_wp2_with (go_at_call 17; refine Calls.mono CC.out ?_; rintro e w4 ⟨vv, xs, rfl, hIm, hB4⟩)
          exact hK.out _ _ ⟨vv, (by simp only [Act.put, List.getElem?_cons_zero, List.getElem?_cons_succ, Option.getD_some, List.setIfInBounds_toArray, List.set_cons_zero, List.set_cons_succ]), hI.trans (hB4.mono hzw), hB4, ⟨xs, hIm⟩⟩
        · refine wpOp_step rfl (fun K' hK => ?_)
          replace hK := Lib.hid hK
          go_wp2
          exact hK.out _ _ ⟨(t 10), (by simp only [Act.put, List.getElem?_cons_zero, List.getElem?_cons_succ, Option.getD_some, List.setIfInBounds_toArray, List.set_cons_zero, List.set_cons_succ]), hI, Below.refl _ _, rfl⟩
      · intro t w4 a' hI ha hv
        simp only [putFrom, Act.put, Nat.reduceAdd, List.setIfInBounds_toArray, List.set_cons_zero, List.set_cons_succ] at ha
        subst ha
        obtain ⟨xs, hxs⟩ := hv 10 (by decide)
        have e11 : t 11 = t 10 := hv 11 (by decide)
        rw [e11]
        clear hv e11 CI1 CA0
        generalize t 10 = xv at *
        have hI4z := hI.size
        go_upto_region 4 with fail
        refine wp_region_vals [some 32, some 33, some 34, some 35, some 36, some 37, some 38, some 39, some 40, some 41, some 6] (fun W => Below w4.heap.size w4 W) (fun W W' => Below W.heap.size W W') twiD (TwiV w.heap.size xv sA ls.length sc self lA lw.length lc S R (L.map (improveP f)) w0.heap.size f) hmix (by kernel_rfl) rfl (by decide) (by kernel_rfl) TwiV.call (Below.refl _ _).drew ?_ ?_
        · intro s w' a' hJ ha i hlt hd
          have hI := hI.trans (hJ.mono hI4z)
          simp only [putFrom, Act.put, Nat.reduceAdd, List.setIfInBounds_toArray, List.set_cons_zero, List.set_cons_succ] at ha
          subst ha
          replace hlt : i < 11 := hlt
          have kcw := kc.below hI kc.lt
          have hzw := hI.size
          rcases (show i = 0 ∨ i = 1 ∨ i = 2 ∨ i = 3 ∨ i = 4 ∨ i = 5 ∨ i = 6 ∨ i = 7 ∨ i = 8 ∨ i = 9 ∨ i = 10 by omega) with rfl | rfl | rfl | rfl | rfl | rfl | rfl | rfl | rfl | rfl | rfl
          · refine wpOp_step rfl (fun K' hK => ?_)
            replace hK := Lib.hid hK
            go_wp2
            exact hK.out _ _ ⟨xv, (by simp only [Act.put, List.getElem?_cons_zero, Option.getD_some, List.setIfInBounds_toArray, List.set_cons_zero, List.set_cons_succ]), hJ, Below.refl _ _, rfl⟩
          · refine wpOp_step rfl (fun K' hK => ?_)
            replace hK := Lib.hid hK
            go_wp2
            exact hK.out _ _ ⟨(.pointer (some ⟨w.heap.size, 0, none⟩)), (by simp only [Act.put, List.getElem?_cons_zero, List.getElem?_cons_succ, Option.getD_some, List.setIfInBounds_toArray, List.set_cons_zero, List.set_cons_succ]), hJ, Below.refl _ _, rfl⟩
          · have d1 : s 1 = _ := hd 1 (by kernel_rfl)
            rw [d1]
            have hx := kcw.cell 0
            simp only [List.getElem?_toArray, List.getElem?_cons_zero] at hx
            refine wpOp_step rfl (fun K' hK => ?_)
            replace hK := Lib.hid hK
            go_wp2
            exact hK.out _ _ ⟨(.slice sA ls.length sc), (by simp only [Act.put, List.getElem?_cons_zero, List.getElem?_cons_succ, Option.getD_some, List.setIfInBounds_toArray, List.set_cons_zero, List.set_cons_succ]), hJ, Below.refl _ _, rfl⟩
          · have d2 : s 2 = _ := hd 2 (by kernel_rfl)
            rw [d2]
            have CC := Lib.hid (CS0.out w' hI)
            refine wpOp_step rfl (fun K' hK => ?_)
            replace hK := Lib.hid hK
            go_wp2_with (go_at_call 19; refine Calls.mono CC.out ?_; rintro e w4 ⟨vv, ys, rfl, hys, hSt⟩)
            have hst := hSt.states
            rw [hys] at hst
            obtain ⟨-, Av, cv, rfl, -⟩ := id (Sl.of_own hSt.own)
            exact hK.out _ _ ⟨_, (by simp only [Act.put, List.getElem?_cons_zero, List.getElem?_cons_succ, Option.getD_some, List.setIfInBounds_toArray, List.set_cons_zero, List.set_cons_succ]), hJ.trans (hSt.below.mono hJ.size), hSt.below, ⟨Av, cv, ys, rfl, hys, hst⟩⟩
          · refine wpOp_step rfl (fun K' hK => ?_)
            replace hK := Lib.hid hK
            go_wp2
            exact hK.out _ _ ⟨(.pointer (some ⟨w.heap.size, 2, none⟩)), (by simp only [Act.put, List.getElem?_cons_zero, List.getElem?_cons_succ, Option.getD_some, List.setIfInBounds_toArray, List.set_cons_zero, List.set_cons_succ]), hJ, Below.refl _ _, rfl⟩
          · have d4 : s 4 = _ := hd 4 (by kernel_rfl)
            rw [d4]
            have hx := kcw.cell 2
            simp only [List.getElem?_toArray, List.getElem?_cons_zero, List.getElem?_cons_succ] at hx
            refine wpOp_step rfl (fun K' hK => ?_)
            replace hK := Lib.hid hK
            go_wp2
            exact hK.out _ _ ⟨(.int .u32 self), (by simp only [Act.put, List.getElem?_cons_zero, List.getElem?_cons_succ, Option.getD_some, List.setIfInBounds_toArray, List.set_cons_zero, List.set_cons_succ]), hJ, Below.refl _ _, rfl⟩
          · refine wpOp_step rfl (fun K' hK => ?_)
            replace hK := Lib.hid hK
            go_wp2
            exact hK.out _ _ ⟨(.pointer (some ⟨w.heap.size, 3, none⟩)), (by simp only [Act.put, List.getElem?_cons_zero, List.getElem?_cons_succ, Option.getD_some, List.setIfInBounds_toArray, List.set_cons_zero, List.set_cons_succ]), hJ, Below.refl _ _, rfl⟩
          · have d6 : s 6 = _ := hd 6 (by kernel_rfl)
            rw [d6]
            have hx := kcw.cell 3
            simp only [List.getElem?_toArray, List.getElem?_cons_zero, List.getElem?_cons_succ] at hx
            refine wpOp_step rfl (fun K' hK => ?_)
            replace hK := Lib.hid hK
            go_wp2
            exact hK.out _ _ ⟨(.slice lA lw.length lc), (by simp only [Act.put, List.getElem?_cons_zero, List.getElem?_cons_succ, Option.getD_some, List.setIfInBounds_toArray, List.set_cons_zero, List.set_cons_succ]), hJ, Below.refl _ _, rfl⟩
          · have d7 : s 7 = _ := hd 7 (by kernel_rfl)
            rw [d7]
            have CC := Lib.hid (CW0.out w' hI)
            refine wpOp_step rfl (fun K' hK => ?_)
            replace hK := Lib.hid hK
            go_wp2_with (go_at_call 18; refine Calls.mono CC.out ?_; rintro e w4 ⟨vv, xs, rfl, hgx, hIx⟩)
            have hwx := hIx.ways
            rw [hgx] at hwx
            obtain ⟨-, Av, cv, rfl, -⟩ := id (Sl.of_own hIx.own)
            exact hK.out _ _ ⟨_, (by simp only [Act.put, List.getElem?_cons_zero, List.getElem?_cons_succ, Option.getD_some, List.setIfInBounds_toArray, List.set_cons_zero, List.set_cons_succ]), hJ.trans (hIx.below.mono hJ.size), hIx.below, ⟨Av, cv, xs, rfl, hwx⟩⟩
          · have d0 : s 0 = _ := hd 0 (by kernel_rfl)
            rw [d0]
            obtain ⟨A1, c1, ys, d3, hys, hst⟩ := hd 3 (by kernel_rfl)
            rw [d3]
            have d5 : s 5 = _ := hd 5 (by kernel_rfl)
            rw [d5]
            obtain ⟨A2, c2, zs, d8, hwx⟩ := hd 8 (by kernel_rfl)
            rw [d8]
            have hwz := (ImpW.call hJ hxs).ways
            obtain ⟨-, A0, c0, rfl, -⟩ := id (Sl.of_own hxs.1)
            have hzn : xs.length ≤ 1000000 := by
              have h1 := hwz.len
              have h2 := hLL.out
              rw [List.length_map, List.length_map] at h1
              omega
            have CC := Lib.hid (CI2.out w' hI A0 c0 xs A1 c1 ys A2 c2 zs hzn hwz hst hwx)
            refine wpOp_step rfl (fun K' hK => ?_)
            replace hK := Lib.hid hK
            go_wp2_with (go_at_call 17; refine Calls.mono CC.out ?_; rintro e w5 ⟨vv, us, rfl, hIm, hB4⟩)
            exact hK.out _ _ ⟨vv, (by simp only [Act.put, List.getElem?_cons_zero, List.getElem?_cons_succ, Option.getD_some, List.setIfInBounds_toArray, List.set_cons_zero, List.set_cons_succ]), hJ.trans (hB4.mono hJ.size), hB4, ⟨us, hIm⟩⟩
          · refine wpOp_step rfl (fun K' hK => ?_)
            replace hK := Lib.hid hK
            go_wp2
            exact hK.out _ _ ⟨(s 9), (by simp only [Act.put, List.getElem?_cons_zero, List.getElem?_cons_succ, Option.getD_some, List.setIfInBounds_toArray, List.set_cons_zero, List.set_cons_succ]), hJ, Below.refl _ _, rfl⟩
        · intro s w5 a' hJ ha hv
          simp only [putFrom, Act.put, Nat.reduceAdd, List.setIfInBounds_toArray, List.set_cons_zero, List.set_cons_succ] at ha
          subst ha
          obtain ⟨us, hus⟩ := hv 9 (by decide)
          have e10 : s 10 = s 9 := hv 10 (by decide)
          rw [e10]
          clear hv e10 CI2 CS0 CW0
          generalize s 9 = yv at *
          have hxs5 := ImpW.call hJ hxs
          clear hxs
          have hB45 : Below w0.heap.size w0 w5 := hI.trans (hJ.mono hI4z)
          have hBw5 := hB0.trans (hB45.mono hz0)
          have hL5 := hL.below hBw5
          have hxl : xs.length = L.length := by
            have := congrArg List.length hxs5.2.2
            simpa [gOf] using this
          have hul : us.length = L.length := by
            have := congrArg List.length hus.2.2
            simpa [gOf] using this
          have hxe : ∀ k (h1 : k < xs.length) (h2 : k < L.length), (xs[k].1.n, xs[k].2) = improveP f L[k] := fun k h1 h2 => by
            have := congrArg (fun z => z[k]?) hxs5.2.2
            simpa [gOf, h1, h2] using this
          have hue : ∀ k (h1 : k < us.length) (h2 : k < L.length), (us[k].1.n, us[k].2) = improveP f (improveP f L[k]) := fun k h1 h2 => by
            have := congrArg (fun z => z[k]?) hus.2.2
            simpa [gOf, h1, h2] using this
          have lx := Sl.of_own hxs5.1
          have lu := Sl.of_own hus.1
          obtain ⟨-, xA, xc, rfl, -⟩ := id lx
          obtain ⟨-, uA, uc, rfl, -⟩ := id lu
          have n1 : ((xs.length : Int) != (ll.length : Int)) = false := by rw [hxl, ← hLL.out]; simp
          have n2 : ((us.length : Int) != (ll.length : Int)) = false := by rw [hul, ← hLL.out]; simp
          clear hxs5 hus
          replace lx := Lib.hid lx
          replace lu := Lib.hid lu
          replace hxl := Lib.hid hxl
          replace hul := Lib.hid hul
          replace hxe := Lib.hid hxe
          replace hue := Lib.hid hue
          replace hL5 := Lib.hid hL5
          have hz5 := hBw5.size
          replace hBw5 := Lib.hid hBw5
          clear hI hJ hI4z hB45 h8 hw4 hl4 h400 hR400 hL400 hSk hLk hLo hSo hRo hS0 hW0 hL0 hL hS hW kc kc1 hBc
          go_wp2_with fail
          go_loopg [7] ll.length (fun c iv wx => ∃ k : Nat, k ≤ ll.length ∧ c = ll.length - k ∧ iv = .int .i64 k ∧ Below w5.heap.size w5 wx)
          case atStart => exact ⟨0, Nat.zero_le _, rfl, rfl, Below.refl _ _⟩
          case round =>
            obtain ⟨k, hk, rfl, rfl, hBr⟩ := hrel
            obtain ⟨w1, rfl⟩ : ∃ x : World, x = wr := ⟨_, rfl⟩
            by_cases hkl : k < ll.length
            · have hkL : k < L.length := by rw [← hLL.out]; exact hkl
              have hkx : k < xs.length := by rw [hxl.out]; exact hkL
              have hku : k < us.length := by rw [hul.out]; exact hkL
              obtain ⟨ba, oa, rfl, hba, hra⟩ := Sl.row wayL_len hL5.out.sl hkl
              obtain ⟨bx, ox, rfl, hbx, hrx⟩ := Sl.row yE.len lx.out hkx
              obtain ⟨bu, ou, rfl, hbu, hru⟩ := Sl.row yE.len lu.out hku
              have hna := hL5.out.n k hkl hkL
              have hnx := hxe.out k hkx hkL
              have hnu := hue.out k hku hkL
              have ik : (k : Int) < (ll.length : Int) := by omega
              have ikx : (k : Int) < (xs.length : Int) := by omega
              have iku : (k : Int) < (us.length : Int) := by omega
              obtain ⟨s1, s2, s3, s4, s5⟩ := improveP_same f L[k]
              obtain ⟨p1, p2⟩ := improveP_cost f L[k]
              have p3 := improveP_twice f L[k]
              rw [← hnx] at s1 s2 s3 s4 s5 p1 p2
              rw [← hnx, show (improveP f (xs[k].1.n, xs[k].2)).1 = us[k].1.n by rw [hnx, ← hnu]] at p3
              rw [← hna] at s1 s2 s3 s4 s5 p1 p2
              dsimp only at s1 s2 s3 s4 s5 p1 p2 p3
              clear hna hnx hnu
              obtain ⟨g, hg⟩ : ∃ g, g = ll[k] := ⟨_, rfl⟩
              rw [← hg] at hra s1 s2 s3 s4 s5 p1 p2
              clear hg
              obtain ⟨x, hx⟩ : ∃ x, x = xs[k] := ⟨_, rfl⟩
              rw [← hx] at hrx s1 s2 s3 s4 s5 p1 p2 p3
              clear hx
              obtain ⟨u, hu⟩ : ∃ u, u = us[k] := ⟨_, rfl⟩
              rw [← hu] at hru p3
              clear hu
              obtain ⟨⟨g0, g1, g2, g3, g4, g5, g6, g7, g8⟩, gA, gn, gc⟩ := g
              obtain ⟨⟨⟨x0, x1, x2, x3, x4, x5, x6, x7, x8⟩, zA, zn, zc⟩, xh⟩ := x
              obtain ⟨⟨⟨u0, u1, u2, u3, u4, u5, u6, u7, u8⟩, vA, vn, vc⟩, uh⟩ := u
              dsimp only at s1 s2 s3 s4 s5 p1 p2 p3
              subst s1 s2 s3 s4 s5 p3
              have hba5 : ba < w5.heap.size := by omega
              have a0 : w1.cell? ⟨ba, oa + k * 10, none⟩ = some (.int .u32 x0) := (hBr.cell (p := ⟨ba, oa + k * 10, none⟩) hba5).trans (hra 0 _ rfl)
              have a1 : w1.cell? ⟨ba, oa + k * 10 + 1, none⟩ = some (.int .u8 x1) := (hBr.cell (p := ⟨ba, oa + k * 10 + 1, none⟩) hba5).trans (hra 1 _ rfl)
              have a2 : w1.cell? ⟨ba, oa + k * 10 + 2, none⟩ = some (.int .u32 x2) := (hBr.cell (p := ⟨ba, oa + k * 10 + 2, none⟩) hba5).trans (hra 2 _ rfl)
              have a4 : w1.cell? ⟨ba, oa + k * 10 + 4, none⟩ = some (.int .u8 x4) := (hBr.cell (p := ⟨ba, oa + k * 10 + 4, none⟩) hba5).trans (hra 4 _ rfl)
              have a5 : w1.cell? ⟨ba, oa + k * 10 + 5, none⟩ = some (.int .u32 x5) := (hBr.cell (p := ⟨ba, oa + k * 10 + 5, none⟩) hba5).trans (hra 5 _ rfl)
              have a6 : w1.cell? ⟨ba, oa + k * 10 + 6, none⟩ = some (.int .u32 g6) := (hBr.cell (p := ⟨ba, oa + k * 10 + 6, none⟩) hba5).trans (hra 6 _ rfl)
              have b0 : w1.cell? ⟨bx, ox + k * 10, none⟩ = some (.int .u32 x0) := (hBr.cell (p := ⟨bx, ox + k * 10, none⟩) hbx).trans (hrx 0 _ rfl)
              have b1 : w1.cell? ⟨bx, ox + k * 10 + 1, none⟩ = some (.int .u8 x1) := (hBr.cell (p := ⟨bx, ox + k * 10 + 1, none⟩) hbx).trans (hrx 1 _ rfl)
              have b2 : w1.cell? ⟨bx, ox + k * 10 + 2, none⟩ = some (.int .u32 x2) := (hBr.cell (p := ⟨bx, ox + k * 10 + 2, none⟩) hbx).trans (hrx 2 _ rfl)
              have b6 : w1.cell? ⟨bx, ox + k * 10 + 6, none⟩ = some (.int .u32 u6) := (hBr.cell (p := ⟨bx, ox + k * 10 + 6, none⟩) hbx).trans (hrx 6 _ rfl)
              have d6 : w1.cell? ⟨bu, ou + k * 10 + 6, none⟩ = some (.int .u32 u6) := (hBr.cell (p := ⟨bu, ou + k * 10 + 6, none⟩) hbu).trans (hru 6 _ rfl)
              have neq := fun W => neq_preS x0 x1 W
              have j1 : ¬ g6 < u6 := by omega
              clear hra hrx hru p1
              have k1 : decide (g6 < u6) = false := decide_eq_false j1
              have k3 : (x2 != x2) = false := by simp
              have k4 : (u6 != u6) = false := by simp
              go_upto_region 10 with fail
              dsimp only [List.append]
              refine wp_region_quiet_lit (by kernel_rfl) (by kernel_rfl) ?_
              repeat (go_big_quiet_step (fail))
              by_cases hlt : u6 < g6
              · have k2 : decide (u6 < g6) = true := decide_eq_true hlt
                obtain ⟨rfl, hkd⟩ := p2 hlt
                rw [k2]
                rcases hkd with rfl | rfl
                · repeat (go_big_quiet_step (fail))
                  refine wpQuiet_nil ?_
                  rintro _ ⟨nq, rfl⟩
                  go_wp2_with fail
                  go_roundg (ll.length - (k + 1))
                  case measure => omega
                  case rel => exact ⟨k + 1, by omega, rfl, by go_num, below_drewN hBr nq⟩
                · repeat (go_big_quiet_step (fail))
                  refine wpQuiet_nil ?_
                  rintro _ ⟨nq, rfl⟩
                  go_wp2_with fail
                  go_roundg (ll.length - (k + 1))
                  case measure => omega
                  case rel => exact ⟨k + 1, by omega, rfl, by go_num, below_drewN hBr nq⟩
              · clear p2
                have k2 : decide (u6 < g6) = false := decide_eq_false hlt
                rw [k2]
                repeat (go_big_quiet_step (fail))
                refine wpQuiet_nil ?_
                rintro _ ⟨nq, rfl⟩
                go_wp2_with fail
                go_roundg (ll.length - (k + 1))
                case measure => omega
                case rel => exact ⟨k + 1, by omega, rfl, by go_num, below_drewN hBr nq⟩
            · obtain rfl : k = ll.length := by omega
              have ik : ¬ (ll.length : Int) < (ll.length : Int) := by omega
              have hBe : Below w.heap.size w w1 := hBw5.out.trans (hBr.mono hz5)
              go_wp2_with (go_at_call 16; refine Calls.mono (works19_any _) ?_; rintro e w9 ⟨rfl, hB9⟩)
              go_ret
              exact ⟨rfl, hBe.trans (hB9.mono hBe.size)⟩
    · go_wp2_with (go_at_call 16; refine Calls.mono (works19_any _) ?_; rintro e w3 ⟨rfl, hB3⟩)
      go_ret
      exact ⟨rfl, hBw.trans (hB3.mono hBw.size)⟩
end Go.Proofs.YtiikagabdiphkaaGreat
