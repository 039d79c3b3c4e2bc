/- lodestarref18.best: a way more, in order; of those to one prefix the best. Conditions: the row and all hops are the call's own. -/
import Derived.Test.YtiikagabdiphkaaGreatRebA
import Derived.Test.YtiikagabdiphkaaGreatRegV
namespace Go.Proofs.YtiikagabdiphkaaGreat
open Go.RowKit Go.Lo

theorem eql_preR (a b c d : Int) (w : World) : (binOp .eql 35 (.agg #[.int .u32 a, .int .u8 b]) (.agg #[.int .u32 c, .int .u8 d])).run Tryz.prog w = .ok (.bool (decide (a = c) && decide (b = d))) w := by
  rw [run_eql_struct, run_equalIn_agg _ _ _ _ _ (by kernel_rfl) (by kernel_rfl)]
  go_simp
  by_cases h1 : a = c <;> by_cases h2 : b = d <;> simp [h1, h2]
/-- what the operations of the join's region leave -/
def JorV (base ob n oc i xb : Nat) (yA : Option Addr) (yn yc : Nat) (xA : Option Addr) (xn xc : Nat) (L : List Hop) : Nat → Value → Value → World → Prop
  | 0, v, _, _ => v = .slice (some ⟨ob, 0, none⟩) n oc
  | 1, v, _, _ => v = .int .i64 i
  | 2, v, _, _ => v = .slice (some ⟨ob, 0, none⟩) n oc
  | 3, v, _, _ => v = .int .i64 i
  | 4, v, _, _ => v = .pointer (some ⟨ob, i * 10, none⟩)
  | 5, v, _, _ => v = .pointer (some ⟨ob, i * 10 + 9, none⟩)
  | 6, v, _, _ => v = .slice yA yn yc
  | 7, v, _, _ => v = .pointer (some ⟨xb, 9, none⟩)
  | 8, v, _, _ => v = .slice xA xn xc
  | 9, v, _, W => ∃ (A : Option Addr) (c : Nat), v = .slice A L.length c ∧ W.ownsRow base 46 3 (.slice A L.length c) L.length (L.flatMap hopCells)
  | 10, v, _, _ => v = .pointer (some ⟨ob, i * 10, none⟩)
  | 11, v, _, _ => v = .pointer (some ⟨ob, i * 10 + 9, none⟩)
  | _, _, _, _ => True
def JorS (ob : Nat) (W W' : World) : Prop := Below W.heap.size W W' ∨ (W.grownBy W' (some ob) ∧ ∃ cs, Blk W ob 41 cs)
theorem JorV.turn {base ob n oc i xb : Nat} {yA : Option Addr} {yn yc : Nat} {xA : Option Addr} {xn xc : Nat} {L : List Hop} : ∀ (j : Nat) (v u : Value) (W W' : World), JorS ob W W' → JorV base ob n oc i xb yA yn yc xA xn xc L j v u W → JorV base ob n oc i xb yA yn yc xA xn xc L j v u W'
  | 0, _, _, _, _, _, h => h
  | 1, _, _, _, _, _, h => h
  | 2, _, _, _, _, _, h => h
  | 3, _, _, _, _, _, h => h
  | 4, _, _, _, _, _, h => h
  | 5, _, _, _, _, _, h => h
  | 6, _, _, _, _, _, h => h
  | 7, _, _, _, _, _, h => h
  | 8, _, _, _, _, _, h => h
  | 9, _, _, _, _, .inl hB, ⟨A, c, h1, h2⟩ => ⟨A, c, h1, own_below h2 hB⟩
  | 9, _, _, _, _, .inr ⟨hg, cs, hb⟩, ⟨A, c, h1, h2⟩ => ⟨A, c, h1, own_same h2 fun k hk => hg.block k (h2.lt k hk).2 fun e => own_ne h2 hb (by decide) k hk (by simpa using e)⟩
  | 10, _, _, _, _, _, h => h
  | 11, _, _, _, _, _, h => h
  | _ + 12, _, _, _, _, _, _ => trivial
/-- the join is stored -/
def JorF (w w3 : World) (outs : List WayY) (i : Nat) (n : WayN) (L : List Hop) (ob oc : Nat) (W : World) : Prop :=
  ∃ (A : Option Addr) (c : Nat), W.ownsRow (w.heap.size) 41 10 (.slice (some ⟨ob, 0, none⟩) outs.length oc) outs.length ((outs.set i ((⟨n, A, L.length, c⟩, L) : WayY)).flatMap yL) ∧ W.ownsRow w.heap.size 46 3 (.slice A L.length c) L.length (L.flatMap hopCells) ∧
    ∃ W0, Below w3.heap.size w3 W0 ∧ W0.grownBy W (some ob)
/-- what is known between the operations of the join's region -/
def JorI (w w3 : World) (outs : List WayY) (i : Nat) (n : WayN) (L : List Hop) (ob oc : Nat) (done : Nat → Bool) (W : World) : Prop := (done 12 = false → Below w3.heap.size w3 W) ∧ (done 12 = true → JorF w w3 outs i n L ob oc W)
theorem JorI.not_ {w w3 : World} {outs : List WayY} {i : Nat} {n : WayN} {L : List Hop} {ob oc : Nat} {done : Nat → Bool} {W : World} (j : Nat) (hj : 12 ≠ j) (h12 : done 12 = false) (h : Below w3.heap.size w3 W) : JorI w w3 outs i n L ob oc (andD done j) W := ⟨fun _ => h, fun e => by
  unfold andD at e
  rw [if_neg hj, h12] at e
  cases e⟩


/-- what the document's best hands back -/
def RebPost (w0 : World) (xs : List WayY) (g : WayG) (e : Ending) (w' : World) : Prop := ∃ v' xs', e = .returned v' ∧ gOf xs' = insP (gOf xs) g ∧ RImp w0 xs' v' w'

set_option maxRecDepth 100000 in
set_option maxHeartbeats 8000000 in
theorem rbest_any (w0 : World) (xs : List WayY) (v : Value) (g : WayN) (xA : Option Addr) (xc : Nat) (xh : List Hop) (w : World) (hI : RImp w0 xs v w) (hg : w.ownsRow w0.heap.size 46 3 (.slice xA xh.length xc) xh.length (xh.flatMap hopCells)) (hxn : xs.length ≤ 1000) (hol : ∀ x ∈ xs, x.2.length ≤ 200000) (hhk : xh.length ≤ 200000) :
    Calls Tryz.prog 85 #[v, .agg (wayC g (.slice xA xh.length xc))] w (RebPost w0 xs (g, xh)) := by
  have hmix : (Tryz.prog).follows .mixedOrders = true := by kernel_rfl
  obtain ⟨-, oA, oc, rfl, -⟩ := id (Sl.of_own hI.own)
  obtain ⟨x0, x1, x2, x3, x4, x5, x6, x7, x8⟩ := g
  dsimp only [wayC]
  have hz := hI.below.size
  have KX := Blk.new w 41 #[.int .u32 x0, .int .u8 x1, .int .u32 x2, .int .u8 x3, .int .u8 x4, .int .u32 x5, .int .u32 x6, .int .u32 x7, .int .u32 x8, .slice xA xh.length xc]
  have hI1 := hI.alloc (.cells #[.int .u32 x0, .int .u8 x1, .int .u32 x2, .int .u8 x3, .int .u8 x4, .int .u32 x5, .int .u32 x6, .int .u32 x7, .int .u32 x8, .slice xA xh.length xc] 41)
  have hg1 := own_alloc hg (.cells #[.int .u32 x0, .int .u8 x1, .int .u32 x2, .int .u8 x3, .int .u8 x4, .int .u32 x5, .int .u32 x6, .int .u32 x7, .int .u32 x8, .slice xA xh.length xc] 41)
  have hne : ∀ b', (Value.slice oA xs.length oc).ownBlock = some b' → b' ≠ w.heap.size := fun b' hb' => by have := (hI.own.lt b' hb').2; omega
  go_enter Tryz.func85, Tryz.ntmps85
  go_upto_region 1 with fail
  have hXlt := KX.lt
  generalize w.alloc (.cells #[.int .u32 x0, .int .u8 x1, .int .u32 x2, .int .u8 x3, .int .u8 x4, .int .u32 x5, .int .u32 x6, .int .u32 x7, .int .u32 x8, .slice xA xh.length xc] 41) = w1 at *
  clear hI hg
  replace hI1 := Lib.hid hI1
  replace hg1 := Lib.hid hg1
  replace hol := Lib.hid hol
  go_wp2_with fail
  go_loopg [5] xs.length (fun c iv wr => ∃ k : Nat, k ≤ xs.length ∧ c = xs.length - k ∧ iv = .int .i64 k ∧ (∀ i (hi : i < xs.length), i < k → ltK2 (keyO xs[i].1.n) (x0, x1) = true) ∧ Below w1.heap.size w1 wr)
  case atStart => exact ⟨0, Nat.zero_le _, rfl, rfl, fun _ _ h => absurd h (Nat.not_lt_zero _), Below.refl _ _⟩
  case round =>
    obtain ⟨k, hk, rfl, rfl, hall, hBr⟩ := hrel
    obtain ⟨w2, rfl⟩ : ∃ x : World, x = wr := ⟨_, rfl⟩
    replace hall := Lib.hid hall
    have hz2 := hBr.size
    have gx := Lib.hid (fun (W : World) (h : Below w1.heap.size w1 W) (q : Nat) (hq : q < 10) => (KX.below h hXlt).cell q)
    have hrow : Hid (∀ (hkx : k < xs.length), ∃ b, oA = some ⟨b, 0, none⟩ ∧ b < w1.heap.size ∧ ∀ W, Below w1.heap.size w1 W → ∀ q u, (yL xs[k])[q]? = some u → W.cell? ⟨b, k * 10 + q, none⟩ = some u) := by
      refine Lib.hid fun hkx => ?_
      obtain ⟨ob, cap, hvo, hob, hol2⟩ := hI1.out.own.form (by omega)
      simp only [Value.slice.injEq, true_and] at hvo
      obtain ⟨rfl, rfl⟩ := hvo
      obtain ⟨b', off', hA', hb', hrow'⟩ := Sl.row yE.len (Sl.of_own hI1.out.own) hkx
      simp only [Option.some.injEq, Addr.mk.injEq, and_true] at hA'
      obtain ⟨rfl, rfl⟩ := hA'
      refine ⟨_, rfl, hb', fun W h q u hu => ?_⟩
      have := hrow' q u hu
      rw [Nat.zero_add] at this
      exact (h.cell (p := ⟨ob, k * 10 + q, none⟩) hb').trans this
    obtain ⟨q0, hq0⟩ : ∃ q0, q0 = (decide (k < xs.length) && ((xs[k]?).map fun y => ltK2 (keyO y.1.n) (x0, x1)).getD false) := ⟨_, rfl⟩
    replace hq0 := Lib.hid hq0
    go_upto_region 2 with fail
    go_cut [21] (fun v wx => v = .bool q0 ∧ Below w1.heap.size w1 wx)
    case first =>
      by_cases hkx : k < xs.length
      · obtain ⟨b, rfl, hb, hc⟩ := hrow.out hkx
        have hq1 := hq0.out
        rw [List.getElem?_eq_getElem hkx, decide_eq_true hkx, Bool.true_and, Option.map_some, Option.getD_some] at hq1
        clear hq0
        obtain ⟨y, hy⟩ : ∃ y, y = xs[k] := ⟨_, rfl⟩
        rw [← hy] at hc hq1
        clear hy
        obtain ⟨⟨⟨y0, y1, y2, y3, y4, y5, y6, y7, y8⟩, yA, yn, yc⟩, yh⟩ := y
        dsimp only [keyO] at hq1
        replace hc := Lib.hid hc
        have ik : (k : Int) < (xs.length : Int) := by omega
        have CB := Lib.hid (fun W => pbefore_any y0 y1 x0 x1 W)
        rw [← hq1] at CB
        clear hq1 hrow
        refine wp_region_vals [some 8, some 9, some 10, some 11, some 12, some 13, some 14, some 15, some 16, some 17, some 18, some 19, some 20, some 21] (fun W => Below w2.heap.size w2 W) (fun W W' => Below W.heap.size W W') id (ValV [.int .i64 k, .slice (some ⟨b, 0, none⟩) xs.length oc, .int .i64 xs.length, .bool true, .bool true, .slice (some ⟨b, 0, none⟩) xs.length oc, .int .i64 k, .pointer (some ⟨b, k * 10, none⟩), .pointer (some ⟨b, k * 10, none⟩), .agg #[.int .u32 y0, .int .u8 y1], .pointer (some ⟨w.heap.size, 0, none⟩), .agg #[.int .u32 x0, .int .u8 x1], .bool q0, .bool q0]) hmix (by kernel_rfl) rfl (by decide) (by kernel_rfl) (fun _ _ _ _ _ _ h => h) (Below.refl _ _).drew ?_ ?_
        · intro t w' a' hI' ha j' hlt' hd
          simp only [putFrom, Act.put, Nat.reduceAdd, List.setIfInBounds_toArray, List.set_cons_zero, List.set_cons_succ] at ha
          subst ha
          replace hlt' : j' < 14 := hlt'
          have hzw := hI'.size
          have hJ := hBr.trans (hI'.mono hz2)
          rcases (show j' = 0 ∨ j' = 1 ∨ j' = 2 ∨ j' = 3 ∨ j' = 4 ∨ j' = 5 ∨ j' = 6 ∨ j' = 7 ∨ j' = 8 ∨ j' = 9 ∨ j' = 10 ∨ j' = 11 ∨ j' = 12 ∨ j' = 13 by omega) with rfl | rfl | rfl | rfl | rfl | rfl | rfl | rfl | rfl | rfl | rfl | rfl | rfl | rfl
          · refine wpOp_step rfl (fun K' hK => ?_)
            replace hK := Lib.hid hK
            go_wp2
            exact hK.out _ _ ⟨_, (by simp only [Act.put, List.getElem?_cons_zero, Option.getD_some, List.setIfInBounds_toArray, List.set_cons_zero, List.set_cons_succ]), hI', Below.refl _ _, rfl⟩
          · refine wpOp_step rfl (fun K' hK => ?_)
            replace hK := Lib.hid hK
            go_wp2
            exact hK.out _ _ ⟨_, (by simp only [Act.put, List.getElem?_cons_zero, List.getElem?_cons_succ, Option.getD_some, List.setIfInBounds_toArray, List.set_cons_zero, List.set_cons_succ]), hI', Below.refl _ _, rfl⟩
          · have d1 : t 1 = .slice (some ⟨b, 0, none⟩) xs.length oc := (Option.some.inj (hd 1 (by kernel_rfl))).symm
            rw [d1]
            refine wpOp_step rfl (fun K' hK => ?_)
            replace hK := Lib.hid hK
            go_wp2
            exact hK.out _ _ ⟨_, (by simp only [Act.put, List.getElem?_cons_zero, List.getElem?_cons_succ, Option.getD_some, List.setIfInBounds_toArray, List.set_cons_zero, List.set_cons_succ]), hI', Below.refl _ _, rfl⟩
          · have d0 : t 0 = .int .i64 k := (Option.some.inj (hd 0 (by kernel_rfl))).symm
            rw [d0]
            have d2 : t 2 = .int .i64 xs.length := (Option.some.inj (hd 2 (by kernel_rfl))).symm
            rw [d2]
            refine wpOp_step rfl (fun K' hK => ?_)
            replace hK := Lib.hid hK
            go_wp2
            exact hK.out _ _ ⟨_, (by simp only [Act.put, List.getElem?_cons_zero, List.getElem?_cons_succ, Option.getD_some, List.setIfInBounds_toArray, List.set_cons_zero, List.set_cons_succ]), hI', Below.refl _ _, rfl⟩
          · have d3 : t 3 = .bool true := (Option.some.inj (hd 3 (by kernel_rfl))).symm
            rw [d3]
            refine wpOp_step rfl (fun K' hK => ?_)
            replace hK := Lib.hid hK
            go_wp2
            exact hK.out _ _ ⟨_, (by simp only [Act.put, List.getElem?_cons_zero, List.getElem?_cons_succ, Option.getD_some, List.setIfInBounds_toArray, List.set_cons_zero, List.set_cons_succ]), hI', Below.refl _ _, rfl⟩
          · have d4 : t 4 = .bool true := (Option.some.inj (hd 4 (by kernel_rfl))).symm
            rw [d4]
            refine wpOp_step rfl (fun K' hK => ?_)
            replace hK := Lib.hid hK
            go_wp2
            exact hK.out _ _ ⟨_, (by simp only [Act.put, List.getElem?_cons_zero, List.getElem?_cons_succ, Option.getD_some, List.setIfInBounds_toArray, List.set_cons_zero, List.set_cons_succ]), hI', Below.refl _ _, rfl⟩
          · have d4 : t 4 = .bool true := (Option.some.inj (hd 4 (by kernel_rfl))).symm
            rw [d4]
            refine wpOp_step rfl (fun K' hK => ?_)
            replace hK := Lib.hid hK
            go_wp2
            exact hK.out _ _ ⟨_, (by simp only [Act.put, List.getElem?_cons_zero, List.getElem?_cons_succ, Option.getD_some, List.setIfInBounds_toArray, List.set_cons_zero, List.set_cons_succ]), hI', Below.refl _ _, rfl⟩
          · have d5 : t 5 = .slice (some ⟨b, 0, none⟩) xs.length oc := (Option.some.inj (hd 5 (by kernel_rfl))).symm
            rw [d5]
            have d6 : t 6 = .int .i64 k := (Option.some.inj (hd 6 (by kernel_rfl))).symm
            rw [d6]
            have d4 : t 4 = .bool true := (Option.some.inj (hd 4 (by kernel_rfl))).symm
            rw [d4]
            refine wpOp_step rfl (fun K' hK => ?_)
            replace hK := Lib.hid hK
            go_wp2
            exact hK.out _ _ ⟨_, (by simp only [Act.put, List.getElem?_cons_zero, List.getElem?_cons_succ, Option.getD_some, List.setIfInBounds_toArray, List.set_cons_zero, List.set_cons_succ]), hI', Below.refl _ _, rfl⟩
          · have d7 : t 7 = .pointer (some ⟨b, k * 10, none⟩) := (Option.some.inj (hd 7 (by kernel_rfl))).symm
            rw [d7]
            have d4 : t 4 = .bool true := (Option.some.inj (hd 4 (by kernel_rfl))).symm
            rw [d4]
            refine wpOp_step rfl (fun K' hK => ?_)
            replace hK := Lib.hid hK
            go_wp2
            exact hK.out _ _ ⟨_, (by simp only [Act.put, List.getElem?_cons_zero, List.getElem?_cons_succ, Option.getD_some, List.setIfInBounds_toArray, List.set_cons_zero, List.set_cons_succ]), hI', Below.refl _ _, rfl⟩
          · have d8 : t 8 = .pointer (some ⟨b, k * 10, none⟩) := (Option.some.inj (hd 8 (by kernel_rfl))).symm
            rw [d8]
            have d4 : t 4 = .bool true := (Option.some.inj (hd 4 (by kernel_rfl))).symm
            rw [d4]
            have f0 : w'.cell? ⟨b, k * 10, none⟩ = some (.int .u32 y0) := hc.out w' hJ 0 _ rfl
            have f1 : w'.cell? ⟨b, k * 10 + 1, none⟩ = some (.int .u8 y1) := hc.out w' hJ 1 _ rfl
            refine wpOp_step rfl (fun K' hK => ?_)
            replace hK := Lib.hid hK
            go_wp2
            exact hK.out _ _ ⟨_, (by simp only [Act.put, List.getElem?_cons_zero, List.getElem?_cons_succ, Option.getD_some, List.setIfInBounds_toArray, List.set_cons_zero, List.set_cons_succ]), hI', Below.refl _ _, rfl⟩
          · have d4 : t 4 = .bool true := (Option.some.inj (hd 4 (by kernel_rfl))).symm
            rw [d4]
            refine wpOp_step rfl (fun K' hK => ?_)
            replace hK := Lib.hid hK
            go_wp2
            exact hK.out _ _ ⟨_, (by simp only [Act.put, List.getElem?_cons_zero, List.getElem?_cons_succ, Option.getD_some, List.setIfInBounds_toArray, List.set_cons_zero, List.set_cons_succ]), hI', Below.refl _ _, rfl⟩
          · have d10 : t 10 = .pointer (some ⟨w.heap.size, 0, none⟩) := (Option.some.inj (hd 10 (by kernel_rfl))).symm
            rw [d10]
            have d4 : t 4 = .bool true := (Option.some.inj (hd 4 (by kernel_rfl))).symm
            rw [d4]
            have f0 := gx.out w' hJ 0 (by decide)
            have f1 := gx.out w' hJ 1 (by decide)
            simp only [List.getElem?_toArray, List.getElem?_cons_zero, List.getElem?_cons_succ] at f0 f1
            refine wpOp_step rfl (fun K' hK => ?_)
            replace hK := Lib.hid hK
            go_wp2
            exact hK.out _ _ ⟨_, (by simp only [Act.put, List.getElem?_cons_zero, List.getElem?_cons_succ, Option.getD_some, List.setIfInBounds_toArray, List.set_cons_zero, List.set_cons_succ]), hI', Below.refl _ _, rfl⟩
          · have d9 : t 9 = .agg #[.int .u32 y0, .int .u8 y1] := (Option.some.inj (hd 9 (by kernel_rfl))).symm
            rw [d9]
            have d11 : t 11 = .agg #[.int .u32 x0, .int .u8 x1] := (Option.some.inj (hd 11 (by kernel_rfl))).symm
            rw [d11]
            have d4 : t 4 = .bool true := (Option.some.inj (hd 4 (by kernel_rfl))).symm
            rw [d4]
            have CC := Lib.hid (CB.out w')
            refine wpOp_step rfl (fun K' hK => ?_)
            replace hK := Lib.hid hK
            go_wp2_with (go_at_call 124; refine Calls.mono CC.out ?_; rintro e w4 ⟨rfl, hB4⟩)
            exact hK.out _ _ ⟨_, (by simp only [Act.put, List.getElem?_cons_zero, List.getElem?_cons_succ, Option.getD_some, List.setIfInBounds_toArray, List.set_cons_zero, List.set_cons_succ]), hI'.trans (hB4.mono hzw), hB4, rfl⟩
          · have d4 : t 4 = .bool true := (Option.some.inj (hd 4 (by kernel_rfl))).symm
            rw [d4]
            have d12 : t 12 = .bool q0 := (Option.some.inj (hd 12 (by kernel_rfl))).symm
            rw [d12]
            refine wpOp_step rfl (fun K' hK => ?_)
            replace hK := Lib.hid hK
            go_wp2
            exact hK.out _ _ ⟨_, (by simp only [Act.put, List.getElem?_cons_zero, List.getElem?_cons_succ, Option.getD_some, List.setIfInBounds_toArray, List.set_cons_zero, List.set_cons_succ]), hI', Below.refl _ _, rfl⟩
        · intro t w' a' hI' ha hv
          simp only [putFrom, Act.put, Nat.reduceAdd, List.setIfInBounds_toArray, List.set_cons_zero, List.set_cons_succ] at ha
          subst ha
          have dl : t 13 = .bool q0 := (Option.some.inj (hv 13 (by decide))).symm
          rw [dl]
          clear hv dl
          go_wp2_with fail
          go_meet
          case rel => exact ⟨rfl, hBr.trans (hI'.mono hz2)⟩
      · have hq1 := hq0.out
        rw [decide_eq_false hkx, Bool.false_and] at hq1
        subst hq1
        have ik : ¬ (k : Int) < (xs.length : Int) := by omega
        clear hrow hq0
        refine wp_region_vals [some 8, some 9, some 10, some 11, some 12, some 13, some 14, some 15, some 16, some 17, some 18, some 19, some 20, some 21] (fun W => Below w2.heap.size w2 W) (fun W W' => Below W.heap.size W W') id (ValV [.int .i64 k, .slice oA xs.length oc, .int .i64 xs.length, .bool false, .bool false, undef, undef, undef, undef, undef, undef, undef, undef, .bool false]) hmix (by kernel_rfl) rfl (by decide) (by kernel_rfl) (fun _ _ _ _ _ _ h => h) (Below.refl _ _).drew ?_ ?_
        · intro t w' a' hI' ha j' hlt' hd
          simp only [putFrom, Act.put, Nat.reduceAdd, List.setIfInBounds_toArray, List.set_cons_zero, List.set_cons_succ] at ha
          subst ha
          replace hlt' : j' < 14 := hlt'
          have hzw := hI'.size
          rcases (show j' = 0 ∨ j' = 1 ∨ j' = 2 ∨ j' = 3 ∨ j' = 4 ∨ j' = 5 ∨ j' = 6 ∨ j' = 7 ∨ j' = 8 ∨ j' = 9 ∨ j' = 10 ∨ j' = 11 ∨ j' = 12 ∨ j' = 13 by omega) with rfl | rfl | rfl | rfl | rfl | rfl | rfl | rfl | rfl | rfl | rfl | rfl | rfl | rfl
          · refine wpOp_step rfl (fun K' hK => ?_)
            replace hK := Lib.hid hK
            go_wp2
            exact hK.out _ _ ⟨_, (by simp only [Act.put, List.getElem?_cons_zero, Option.getD_some, List.setIfInBounds_toArray, List.set_cons_zero, List.set_cons_succ]), hI', Below.refl _ _, rfl⟩
          · refine wpOp_step rfl (fun K' hK => ?_)
            replace hK := Lib.hid hK
            go_wp2
            exact hK.out _ _ ⟨_, (by simp only [Act.put, List.getElem?_cons_zero, List.getElem?_cons_succ, Option.getD_some, List.setIfInBounds_toArray, List.set_cons_zero, List.set_cons_succ]), hI', Below.refl _ _, rfl⟩
          · have d1 : t 1 = .slice oA xs.length oc := (Option.some.inj (hd 1 (by kernel_rfl))).symm
            rw [d1]
            refine wpOp_step rfl (fun K' hK => ?_)
            replace hK := Lib.hid hK
            go_wp2
            exact hK.out _ _ ⟨_, (by simp only [Act.put, List.getElem?_cons_zero, List.getElem?_cons_succ, Option.getD_some, List.setIfInBounds_toArray, List.set_cons_zero, List.set_cons_succ]), hI', Below.refl _ _, rfl⟩
          · have d0 : t 0 = .int .i64 k := (Option.some.inj (hd 0 (by kernel_rfl))).symm
            rw [d0]
            have d2 : t 2 = .int .i64 xs.length := (Option.some.inj (hd 2 (by kernel_rfl))).symm
            rw [d2]
            refine wpOp_step rfl (fun K' hK => ?_)
            replace hK := Lib.hid hK
            go_wp2
            exact hK.out _ _ ⟨_, (by simp only [Act.put, List.getElem?_cons_zero, List.getElem?_cons_succ, Option.getD_some, List.setIfInBounds_toArray, List.set_cons_zero, List.set_cons_succ]), hI', Below.refl _ _, rfl⟩
          · have d3 : t 3 = .bool false := (Option.some.inj (hd 3 (by kernel_rfl))).symm
            rw [d3]
            refine wpOp_step rfl (fun K' hK => ?_)
            replace hK := Lib.hid hK
            go_wp2
            exact hK.out _ _ ⟨_, (by simp only [Act.put, List.getElem?_cons_zero, List.getElem?_cons_succ, Option.getD_some, List.setIfInBounds_toArray, List.set_cons_zero, List.set_cons_succ]), hI', Below.refl _ _, rfl⟩
          · have d4 : t 4 = .bool false := (Option.some.inj (hd 4 (by kernel_rfl))).symm
            rw [d4]
            refine wpOp_step rfl (fun K' hK => ?_)
            replace hK := Lib.hid hK
            go_wp2
            exact hK.out _ _ ⟨_, (by simp only [Act.put, List.getElem?_cons_zero, List.getElem?_cons_succ, Option.getD_some, List.setIfInBounds_toArray, List.set_cons_zero, List.set_cons_succ]), hI', Below.refl _ _, rfl⟩
          · have d4 : t 4 = .bool false := (Option.some.inj (hd 4 (by kernel_rfl))).symm
            rw [d4]
            refine wpOp_step rfl (fun K' hK => ?_)
            replace hK := Lib.hid hK
            go_wp2
            exact hK.out _ _ ⟨_, (by simp only [Act.put, List.getElem?_cons_zero, List.getElem?_cons_succ, Option.getD_some, List.setIfInBounds_toArray, List.set_cons_zero, List.set_cons_succ]), hI', Below.refl _ _, rfl⟩
          · have d4 : t 4 = .bool false := (Option.some.inj (hd 4 (by kernel_rfl))).symm
            rw [d4]
            refine wpOp_step rfl (fun K' hK => ?_)
            replace hK := Lib.hid hK
            go_wp2
            exact hK.out _ _ ⟨_, (by simp only [Act.put, List.getElem?_cons_zero, List.getElem?_cons_succ, Option.getD_some, List.setIfInBounds_toArray, List.set_cons_zero, List.set_cons_succ]), hI', Below.refl _ _, rfl⟩
          · have d4 : t 4 = .bool false := (Option.some.inj (hd 4 (by kernel_rfl))).symm
            rw [d4]
            refine wpOp_step rfl (fun K' hK => ?_)
            replace hK := Lib.hid hK
            go_wp2
            exact hK.out _ _ ⟨_, (by simp only [Act.put, List.getElem?_cons_zero, List.getElem?_cons_succ, Option.getD_some, List.setIfInBounds_toArray, List.set_cons_zero, List.set_cons_succ]), hI', Below.refl _ _, rfl⟩
          · have d4 : t 4 = .bool false := (Option.some.inj (hd 4 (by kernel_rfl))).symm
            rw [d4]
            refine wpOp_step rfl (fun K' hK => ?_)
            replace hK := Lib.hid hK
            go_wp2
            exact hK.out _ _ ⟨_, (by simp only [Act.put, List.getElem?_cons_zero, List.getElem?_cons_succ, Option.getD_some, List.setIfInBounds_toArray, List.set_cons_zero, List.set_cons_succ]), hI', Below.refl _ _, rfl⟩
          · have d4 : t 4 = .bool false := (Option.some.inj (hd 4 (by kernel_rfl))).symm
            rw [d4]
            refine wpOp_step rfl (fun K' hK => ?_)
            replace hK := Lib.hid hK
            go_wp2
            exact hK.out _ _ ⟨_, (by simp only [Act.put, List.getElem?_cons_zero, List.getElem?_cons_succ, Option.getD_some, List.setIfInBounds_toArray, List.set_cons_zero, List.set_cons_succ]), hI', Below.refl _ _, rfl⟩
          · have d4 : t 4 = .bool false := (Option.some.inj (hd 4 (by kernel_rfl))).symm
            rw [d4]
            refine wpOp_step rfl (fun K' hK => ?_)
            replace hK := Lib.hid hK
            go_wp2
            exact hK.out _ _ ⟨_, (by simp only [Act.put, List.getElem?_cons_zero, List.getElem?_cons_succ, Option.getD_some, List.setIfInBounds_toArray, List.set_cons_zero, List.set_cons_succ]), hI', Below.refl _ _, rfl⟩
          · have d4 : t 4 = .bool false := (Option.some.inj (hd 4 (by kernel_rfl))).symm
            rw [d4]
            refine wpOp_step rfl (fun K' hK => ?_)
            replace hK := Lib.hid hK
            go_wp2
            exact hK.out _ _ ⟨_, (by simp only [Act.put, List.getElem?_cons_zero, List.getElem?_cons_succ, Option.getD_some, List.setIfInBounds_toArray, List.set_cons_zero, List.set_cons_succ]), hI', Below.refl _ _, rfl⟩
          · have d4 : t 4 = .bool false := (Option.some.inj (hd 4 (by kernel_rfl))).symm
            rw [d4]
            have d12 : t 12 = undef := (Option.some.inj (hd 12 (by kernel_rfl))).symm
            rw [d12]
            refine wpOp_step rfl (fun K' hK => ?_)
            replace hK := Lib.hid hK
            go_wp2
            exact hK.out _ _ ⟨_, (by simp only [Act.put, List.getElem?_cons_zero, List.getElem?_cons_succ, Option.getD_some, List.setIfInBounds_toArray, List.set_cons_zero, List.set_cons_succ]), hI', Below.refl _ _, rfl⟩
        · intro t w' a' hI' ha hv
          simp only [putFrom, Act.put, Nat.reduceAdd, List.setIfInBounds_toArray, List.set_cons_zero, List.set_cons_succ] at ha
          subst ha
          have dl : t 13 = .bool false := (Option.some.inj (hv 13 (by decide))).symm
          rw [dl]
          clear hv dl
          go_wp2_with fail
          go_meet
          case rel => exact ⟨rfl, hBr.trans (hI'.mono hz2)⟩
    case rest =>
      obtain ⟨rfl, hBc⟩ := hcut
      obtain ⟨w3, rfl⟩ : ∃ x : World, x = wc := ⟨_, rfl⟩
      have hz3 := hBc.size
      clear hBr hz2
      have hq := hq0.out
      clear hq0
      cases q0 with
      | true =>
        replace hq := hq.symm
        simp only [Bool.and_eq_true, decide_eq_true_eq] at hq
        obtain ⟨hkx, hlt⟩ := hq
        rw [List.getElem?_eq_getElem hkx] at hlt
        simp only [Option.map_some, Option.getD_some] at hlt
        replace hlt := Lib.hid hlt
        go_wp2_with fail
        go_roundg (xs.length - (k + 1))
        case measure => omega
        case rel => exact ⟨k + 1, by omega, rfl, by go_num, fun i hi hik => by
          by_cases e : i = k
          · subst e; exact hlt.out
          · exact hall.out i hi (by omega), hBc⟩
      | false =>
        have hno : ∀ hkx : k < xs.length, ltK2 (keyO xs[k].1.n) (x0, x1) = false := fun hkx => by
          rw [decide_eq_true hkx, List.getElem?_eq_getElem hkx] at hq
          simpa using hq.symm
        have hah : ahead (gOf xs) (x0, x1) = k := by
          refine ahead_of (by simpa [gOf] using hk) (fun i hi hik => ?_) (fun hi => ?_)
          · have := hall.out i (by simpa [gOf] using hi) hik
            simpa [gOf] using this
          · have := hno (by simpa [gOf] using hi)
            simpa [gOf] using this
        clear hq hno hall
        replace hah := Lib.hid hah
        have hI3 := Lib.hid (hI1.out.call hBc)
        have hg3 := Lib.hid (own_below hg1.out hBc)
        have KX3 := KX.below hBc hXlt
        obtain ⟨q1, hq1⟩ : ∃ q1, q1 = (decide (k < xs.length) && ((xs[k]?).map fun y => decide (keyO y.1.n = (x0, x1))).getD false) := ⟨_, rfl⟩
        replace hq1 := Lib.hid hq1
        go_upto_region 4 with fail
        go_cut [37] (fun v wx => v = .bool q1 ∧ ∃ n, wx = w3.drewN n)
        case first =>
          by_cases hkx : k < xs.length
          · obtain ⟨b, rfl, hb, hc⟩ := hrow.out hkx
            have hq2 := hq1.out
            rw [List.getElem?_eq_getElem hkx, decide_eq_true hkx, Bool.true_and, Option.map_some, Option.getD_some] at hq2
            clear hq1
            obtain ⟨y, hy⟩ : ∃ y, y = xs[k] := ⟨_, rfl⟩
            rw [← hy] at hc hq2
            clear hy
            obtain ⟨⟨⟨y0, y1, y2, y3, y4, y5, y6, y7, y8⟩, yA, yn, yc⟩, yh⟩ := y
            dsimp only [keyO] at hq2
            have ik : (k : Int) < (xs.length : Int) := by omega
            have f0 : w3.cell? ⟨b, k * 10, none⟩ = some (.int .u32 y0) := hc w3 hBc 0 _ rfl
            have f1 : w3.cell? ⟨b, k * 10 + 1, none⟩ = some (.int .u8 y1) := hc w3 hBc 1 _ rfl
            have c0 := KX3.cell 0
            have c1 := KX3.cell 1
            simp only [List.getElem?_toArray, List.getElem?_cons_zero, List.getElem?_cons_succ] at c0 c1
            have heq := fun W => eql_preR y0 y1 x0 x1 W
            have hq3 : (decide (y0 = x0) && decide (y1 = x1)) = q1 := by
              rw [hq2]
              by_cases h1 : y0 = x0 <;> by_cases h2 : y1 = x1 <;> simp [h1, h2]
            rw [hq3] at heq
            clear hq2 hq3 hc hrow
            go_quiet (fail)
            go_wp2_with fail
            go_meet
            case rel => exact ⟨rfl, nq, rfl⟩
          · have hq2 := hq1.out
            rw [decide_eq_false hkx, Bool.false_and] at hq2
            subst hq2
            have ik : ¬ (k : Int) < (xs.length : Int) := by omega
            clear hrow hq1
            go_quiet (fail)
            go_wp2_with fail
            go_meet
            case rel => exact ⟨rfl, nq, rfl⟩
        case rest =>
          obtain ⟨rfl, nq, rfl⟩ := hcut
          have hB4 := below_drewN hBc nq
          have KX4 := KX.below hB4 hXlt
          have hI4 := Lib.hid (hI1.out.call hB4)
          have hg4 := Lib.hid (own_below hg1.out hB4)
          have hz4 := hB4.size
          generalize w3.drewN nq = w4 at *
          clear hI3 hg3 KX3 hBc hz3
          cases q1 with
          | true =>
            have hq2 := hq1.out.symm
            simp only [Bool.and_eq_true, decide_eq_true_eq] at hq2
            obtain ⟨hkx, hke⟩ := hq2
            rw [List.getElem?_eq_getElem hkx] at hke
            simp only [Option.map_some, Option.getD_some, decide_eq_true_eq] at hke
            have hgk : (gOf xs)[k]? = some (xs[k].1.n, xs[k].2) := gOf_getD rfl hkx
            have hins : ∀ z, betterP ⟨x0, x1, x2, x3, x4, x5, x6, x7, x8⟩ xs[k].1.n = z → insP (gOf xs) (⟨x0, x1, x2, x3, x4, x5, x6, x7, x8⟩, xh) = if z < 0 then (gOf xs).set k (⟨x0, x1, x2, x3, x4, x5, x6, x7, x8⟩, xh) else if z = 0 then (gOf xs).set k (xs[k].1.n, puts (puts [] xs[k].2) xh) else gOf xs := fun z hz' => by
              unfold insP
              rw [show keyO (⟨x0, x1, x2, x3, x4, x5, x6, x7, x8⟩ : WayN) = (x0, x1) from rfl, hah.out, hgk]
              simp only [hke, if_true, hz']
            obtain ⟨ob, rfl, hob, hc⟩ := hrow.out hkx
            have hli := hol.out _ (List.getElem_mem hkx)
            have hHi := hI4.out.hops _ (List.getElem_mem hkx)
            obtain ⟨y, hy⟩ : ∃ y, y = xs[k] := ⟨_, rfl⟩
            rw [← hy] at hc hli hHi hins
            obtain ⟨⟨⟨y0, y1, y2, y3, y4, y5, y6, y7, y8⟩, yA, yn, yc⟩, yh⟩ := y
            obtain rfl : yn = yh.length := sl_len (Sl.of_own hHi)
            dsimp only at hli hHi hins
            have CB := fun W => rbetter_any ⟨x0, x1, x2, x3, x4, x5, x6, x7, x8⟩ ⟨y0, y1, y2, y3, y4, y5, y6, y7, y8⟩ (.slice xA xh.length xc) (.slice yA yh.length yc) W
            dsimp only [wayC] at CB
            generalize hz0 : betterP ⟨x0, x1, x2, x3, x4, x5, x6, x7, x8⟩ ⟨y0, y1, y2, y3, y4, y5, y6, y7, y8⟩ = z at CB
            replace hins := Lib.hid (hins z hz0)
            clear hz0 hgk hq1 hke hah hrow
            replace CB := Lib.hid CB
            replace hy := Lib.hid hy
            replace hHi := Lib.hid hHi
            replace hc := Lib.hid hc
            have ik : (k : Int) < (xs.length : Int) := by omega
            go_upto_region 5 with fail
            refine wp_region_vals [some 38, some 39, some 40, some 41, some 42, some 43, some 6] (fun W => Below w4.heap.size w4 W) (fun W W' => Below W.heap.size W W') id (ValV [.agg #[.int .u32 x0, .int .u8 x1, .int .u32 x2, .int .u8 x3, .int .u8 x4, .int .u32 x5, .int .u32 x6, .int .u32 x7, .int .u32 x8, .slice xA xh.length xc], .slice (some ⟨ob, 0, none⟩) xs.length oc, .int .i64 k, .pointer (some ⟨ob, k * 10, none⟩), .agg #[.int .u32 y0, .int .u8 y1, .int .u32 y2, .int .u8 y3, .int .u8 y4, .int .u32 y5, .int .u32 y6, .int .u32 y7, .int .u32 y8, .slice yA yh.length yc], .int .i64 z, .int .i64 z]) hmix (by kernel_rfl) rfl (by decide) (by kernel_rfl) (fun _ _ _ _ _ _ h => h) (Below.refl _ _).drew ?_ ?_
            · intro t w' a' hI' ha j' hlt' hd
              simp only [putFrom, Act.put, Nat.reduceAdd, List.setIfInBounds_toArray, List.set_cons_zero, List.set_cons_succ] at ha
              subst ha
              replace hlt' : j' < 7 := hlt'
              have hzw := hI'.size
              have hJ := hB4.trans (hI'.mono hz4)
              rcases (show j' = 0 ∨ j' = 1 ∨ j' = 2 ∨ j' = 3 ∨ j' = 4 ∨ j' = 5 ∨ j' = 6 by omega) with rfl | rfl | rfl | rfl | rfl | rfl | rfl
              · have f0 := gx.out w' hJ 0 (by decide)
                have f1 := gx.out w' hJ 1 (by decide)
                have f2 := gx.out w' hJ 2 (by decide)
                have f3 := gx.out w' hJ 3 (by decide)
                have f4 := gx.out w' hJ 4 (by decide)
                have f5 := gx.out w' hJ 5 (by decide)
                have f6 := gx.out w' hJ 6 (by decide)
                have f7 := gx.out w' hJ 7 (by decide)
                have f8 := gx.out w' hJ 8 (by decide)
                have f9 := gx.out w' hJ 9 (by decide)
                simp only [List.getElem?_toArray, List.getElem?_cons_zero, List.getElem?_cons_succ] at f0 f1 f2 f3 f4 f5 f6 f7 f8 f9
                refine wpOp_step rfl (fun K' hK => ?_)
                replace hK := Lib.hid hK
                go_wp2
                exact hK.out _ _ ⟨_, (by simp only [Act.put, List.getElem?_cons_zero, Option.getD_some, List.setIfInBounds_toArray, List.set_cons_zero, List.set_cons_succ]), hI', Below.refl _ _, rfl⟩
              · refine wpOp_step rfl (fun K' hK => ?_)
                replace hK := Lib.hid hK
                go_wp2
                exact hK.out _ _ ⟨_, (by simp only [Act.put, List.getElem?_cons_zero, List.getElem?_cons_succ, Option.getD_some, List.setIfInBounds_toArray, List.set_cons_zero, List.set_cons_succ]), hI', Below.refl _ _, rfl⟩
              · refine wpOp_step rfl (fun K' hK => ?_)
                replace hK := Lib.hid hK
                go_wp2
                exact hK.out _ _ ⟨_, (by simp only [Act.put, List.getElem?_cons_zero, List.getElem?_cons_succ, Option.getD_some, List.setIfInBounds_toArray, List.set_cons_zero, List.set_cons_succ]), hI', Below.refl _ _, rfl⟩
              · have d1 : t 1 = .slice (some ⟨ob, 0, none⟩) xs.length oc := (Option.some.inj (hd 1 (by kernel_rfl))).symm
                rw [d1]
                have d2 : t 2 = .int .i64 k := (Option.some.inj (hd 2 (by kernel_rfl))).symm
                rw [d2]
                refine wpOp_step rfl (fun K' hK => ?_)
                replace hK := Lib.hid hK
                go_wp2
                exact hK.out _ _ ⟨_, (by simp only [Act.put, List.getElem?_cons_zero, List.getElem?_cons_succ, Option.getD_some, List.setIfInBounds_toArray, List.set_cons_zero, List.set_cons_succ]), hI', Below.refl _ _, rfl⟩
              · have d3 : t 3 = .pointer (some ⟨ob, k * 10, none⟩) := (Option.some.inj (hd 3 (by kernel_rfl))).symm
                rw [d3]
                have f0 : w'.cell? ⟨ob, k * 10, none⟩ = some (.int .u32 y0) := hc.out w' hJ 0 _ rfl
                have f1 : w'.cell? ⟨ob, k * 10 + 1, none⟩ = some (.int .u8 y1) := hc.out w' hJ 1 _ rfl
                have f2 : w'.cell? ⟨ob, k * 10 + 2, none⟩ = some (.int .u32 y2) := hc.out w' hJ 2 _ rfl
                have f3 : w'.cell? ⟨ob, k * 10 + 3, none⟩ = some (.int .u8 y3) := hc.out w' hJ 3 _ rfl
                have f4 : w'.cell? ⟨ob, k * 10 + 4, none⟩ = some (.int .u8 y4) := hc.out w' hJ 4 _ rfl
                have f5 : w'.cell? ⟨ob, k * 10 + 5, none⟩ = some (.int .u32 y5) := hc.out w' hJ 5 _ rfl
                have f6 : w'.cell? ⟨ob, k * 10 + 6, none⟩ = some (.int .u32 y6) := hc.out w' hJ 6 _ rfl
                have f7 : w'.cell? ⟨ob, k * 10 + 7, none⟩ = some (.int .u32 y7) := hc.out w' hJ 7 _ rfl
                have f8 : w'.cell? ⟨ob, k * 10 + 8, none⟩ = some (.int .u32 y8) := hc.out w' hJ 8 _ rfl
                have f9 : w'.cell? ⟨ob, k * 10 + 9, none⟩ = some (.slice yA yh.length yc) := hc.out w' hJ 9 _ rfl
                refine wpOp_step rfl (fun K' hK => ?_)
                replace hK := Lib.hid hK
                go_wp2
                exact hK.out _ _ ⟨_, (by simp only [Act.put, List.getElem?_cons_zero, List.getElem?_cons_succ, Option.getD_some, List.setIfInBounds_toArray, List.set_cons_zero, List.set_cons_succ]), hI', Below.refl _ _, rfl⟩
              · have d0 : t 0 = .agg #[.int .u32 x0, .int .u8 x1, .int .u32 x2, .int .u8 x3, .int .u8 x4, .int .u32 x5, .int .u32 x6, .int .u32 x7, .int .u32 x8, .slice xA xh.length xc] := (Option.some.inj (hd 0 (by kernel_rfl))).symm
                rw [d0]
                have d4 : t 4 = .agg #[.int .u32 y0, .int .u8 y1, .int .u32 y2, .int .u8 y3, .int .u8 y4, .int .u32 y5, .int .u32 y6, .int .u32 y7, .int .u32 y8, .slice yA yh.length yc] := (Option.some.inj (hd 4 (by kernel_rfl))).symm
                rw [d4]
                have CC := Lib.hid (CB.out w')
                refine wpOp_step rfl (fun K' hK => ?_)
                replace hK := Lib.hid hK
                go_wp2_with (go_at_call 39; refine Calls.mono CC.out ?_; rintro e w5 ⟨rfl, hB4⟩)
                exact hK.out _ _ ⟨_, (by simp only [Act.put, List.getElem?_cons_zero, List.getElem?_cons_succ, Option.getD_some, List.setIfInBounds_toArray, List.set_cons_zero, List.set_cons_succ]), hI'.trans (hB4.mono hzw), hB4, rfl⟩
              · have d5 : t 5 = .int .i64 z := (Option.some.inj (hd 5 (by kernel_rfl))).symm
                rw [d5]
                refine wpOp_step rfl (fun K' hK => ?_)
                replace hK := Lib.hid hK
                go_wp2
                exact hK.out _ _ ⟨_, (by simp only [Act.put, List.getElem?_cons_zero, List.getElem?_cons_succ, Option.getD_some, List.setIfInBounds_toArray, List.set_cons_zero, List.set_cons_succ]), hI', Below.refl _ _, rfl⟩
            · intro t w' a' hI' ha hv
              simp only [putFrom, Act.put, Nat.reduceAdd, List.setIfInBounds_toArray, List.set_cons_zero, List.set_cons_succ] at ha
              subst ha
              have dl : t 6 = .int .i64 z := (Option.some.inj (hv 6 (by decide))).symm
              rw [dl]
              clear hv dl
              have hB5 := hB4.trans (hI'.mono hz4)
              have hI5 := Lib.hid (hI4.out.call hI')
              have hg5 := Lib.hid (own_below hg4.out hI')
              have hHi5 := Lib.hid (own_below hHi.out hI')
              have KX5 := KX4.below hI' KX4.lt
              have hz5 := hI'.size
              have ho5 := hI5.out.own
              have hobne : ob ≠ w.heap.size := hne ob rfl
              obtain ⟨w5, rfl⟩ : ∃ x : World, x = w' := ⟨_, rfl⟩
              have hzb := hI5.out.below.size
              have hobl := (ho5.lt ob rfl).1
              clear hI4 hg4 hHi KX4 hI'
              by_cases hz1 : z < 0
              · have hins1 := hins.out
                rw [if_pos hz1] at hins1
                go_wp2_with (first
                  | (refine wpList_load_row rfl 41 (.tmp 3) rfl w.heap.size rfl 41 #[.int .u32 x0, .int .u8 x1, .int .u32 x2, .int .u8 x3, .int .u8 x4, .int .u32 x5, .int .u32 x6, .int .u32 x7, .int .u32 x8, .slice xA xh.length xc] (0, 0) _ KX5 Tryz.underlying41 rfl (by kernel_rfl) ?_)
                  | (refine wpList_store_own rfl 41 (.tmp 49) (.tmp 48) rfl (k := k * 10) [.int .u32 x0, .int .u8 x1, .int .u32 x2, .int .u8 x3, .int .u8 x4, .int .u32 x5, .int .u32 x6, .int .u32 x7, .int .u32 x8, .slice xA xh.length xc] rfl rfl ho5 rfl (by kernel_rfl) (by simp [Value.oneCell']) (by simp; omega) ?_; intro w6 ho6 hg6)
                  | fail)
                have hs6 := flat_splice yE xs [] k hkx ((⟨⟨x0, x1, x2, x3, x4, x5, x6, x7, x8⟩, xA, xh.length, xc⟩, xh) : WayY)
                rw [List.append_nil, List.append_nil] at hs6
                obtain ⟨-, csb, hbb⟩ := own_block ho5 ob rfl
                go_ret
                refine ⟨_, xs.set k ((⟨⟨x0, x1, x2, x3, x4, x5, x6, x7, x8⟩, xA, xh.length, xc⟩, xh) : WayY), rfl, by rw [hins1]; simp [gOf, List.map_set], ⟨by rw [List.length_set, ← hs6]; exact ho6, fun q hq => ?_, hI5.out.below.trans (below_of_grown hg6 hzb fun g hg => by simp only [Option.some.injEq] at hg; omega)⟩⟩
                rcases List.mem_or_eq_of_mem_set hq with hq | rfl
                · exact own_same (hI5.out.hops q hq) fun p hp => hg6.block p ((hI5.out.hops q hq).lt p hp).2 fun e => own_ne (hI5.out.hops q hq) hbb (by decide) p hp (by simpa using e)
                · exact own_same hg5.out fun p hp => hg6.block p (hg5.out.lt p hp).2 fun e => own_ne hg5.out hbb (by decide) p hp (by simpa using e)
              · by_cases hz2 : z = 0
                · subst hz2
                  have hins1 := hins.out
                  rw [if_neg hz1, if_pos rfl] at hins1
                  replace hins1 := Lib.hid hins1
                  clear hins
                  have JO : ∀ W, Below w5.heap.size w5 W → Calls Tryz.prog 125 #[.slice yA yh.length yc, .slice xA xh.length xc] W (RefPost W.heap.size W (puts (puts [] yh) xh)) := fun W hW' => refjoin_any yh xh _ _ W (Sl.of_own (own_below hHi5.out hW')) (Sl.of_own (own_below hg5.out hW')) (by omega)
                  have hset : ∀ A c, splice (xs.flatMap yL) (k * 10 + 9) [.slice A (puts (puts [] yh) xh).length c] = (xs.set k ((⟨⟨y0, y1, y2, y3, y4, y5, y6, y7, y8⟩, A, (puts (puts [] yh) xh).length, c⟩, puts (puts [] yh) xh) : WayY)).flatMap yL := fun A c => by
                    have := splice_last xs k hkx ((⟨⟨y0, y1, y2, y3, y4, y5, y6, y7, y8⟩, A, (puts (puts [] yh) xh).length, c⟩, puts (puts [] yh) xh) : WayY) (by rw [← hy.out]; rfl)
                    exact this
                  generalize puts (puts [] yh) xh = L at JO hset hins1
                  replace JO := Lib.hid JO
                  replace hset := Lib.hid hset
                  have hob5 : ob < w5.heap.size := (ho5.lt ob rfl).2
                  have hy9 := Lib.hid (hc.out w5 hB5 9 _ rfl)
                  clear CB
                  go_upto_region 9 with fail
                  refine wp_region_done [some 52, some 53, some 54, some 55, some 56, some 57, some 58, some 59, some 60, some 61, some 62, some 63, none] (JorI w0 w5 xs k ⟨y0, y1, y2, y3, y4, y5, y6, y7, y8⟩ L ob oc) (JorS ob) id (JorV w0.heap.size ob xs.length oc k w.heap.size yA yh.length yc xA xh.length xc L) hmix (by kernel_rfl) rfl (by decide) (by kernel_rfl) JorV.turn ⟨fun _ => (Below.refl _ _).drew, fun h => by cases h⟩ ?_ ?_
                  · intro done t w' a' hI ha hcl j hlt hni hd
                    simp only [putFrom, Act.put, Nat.reduceAdd, List.setIfInBounds_toArray, List.set_cons_zero, List.set_cons_succ] at ha
                    subst ha
                    replace hlt : j < 13 := hlt
                    replace hy9 := hy9.out
                    rcases (show j = 0 ∨ j = 1 ∨ j = 2 ∨ j = 3 ∨ j = 4 ∨ j = 5 ∨ j = 6 ∨ j = 7 ∨ j = 8 ∨ j = 9 ∨ j = 10 ∨ j = 11 ∨ j = 12 by omega) with rfl | rfl | rfl | rfl | rfl | rfl | rfl | rfl | rfl | rfl | rfl | rfl | rfl
                    · have h12 : done 12 = false := by
                        cases h : done 12 with
                        | false => rfl
                        | true => exact absurd (done_of_reach hcl 6 12 0 (by kernel_rfl) h) (by rw [hni]; exact Bool.false_ne_true)
                      have hJ := hI.1 h12
                      refine wpOp_step rfl (fun K' hK => ?_)
                      replace hK := Lib.hid hK
                      go_wp2
                      exact hK.out _ _ ⟨_, (by simp only [Act.put, List.getElem?_cons_zero, Option.getD_some, List.setIfInBounds_toArray, List.set_cons_zero, List.set_cons_succ]), JorI.not_ 0 (by decide) h12 hJ, .inl (Below.refl _ _), rfl⟩
                    · have h12 : done 12 = false := by
                        cases h : done 12 with
                        | false => rfl
                        | true => exact absurd (done_of_reach hcl 6 12 1 (by kernel_rfl) h) (by rw [hni]; exact Bool.false_ne_true)
                      have hJ := hI.1 h12
                      refine wpOp_step rfl (fun K' hK => ?_)
                      replace hK := Lib.hid hK
                      go_wp2
                      exact hK.out _ _ ⟨_, (by simp only [Act.put, List.getElem?_cons_zero, List.getElem?_cons_succ, Option.getD_some, List.setIfInBounds_toArray, List.set_cons_zero, List.set_cons_succ]), JorI.not_ 1 (by decide) h12 hJ, .inl (Below.refl _ _), rfl⟩
                    · have h12 : done 12 = false := by
                        cases h : done 12 with
                        | false => rfl
                        | true => exact absurd (done_of_reach hcl 6 12 2 (by kernel_rfl) h) (by rw [hni]; exact Bool.false_ne_true)
                      have hJ := hI.1 h12
                      refine wpOp_step rfl (fun K' hK => ?_)
                      replace hK := Lib.hid hK
                      go_wp2
                      exact hK.out _ _ ⟨_, (by simp only [Act.put, List.getElem?_cons_zero, List.getElem?_cons_succ, Option.getD_some, List.setIfInBounds_toArray, List.set_cons_zero, List.set_cons_succ]), JorI.not_ 2 (by decide) h12 hJ, .inl (Below.refl _ _), rfl⟩
                    · have h12 : done 12 = false := by
                        cases h : done 12 with
                        | false => rfl
                        | true => exact absurd (done_of_reach hcl 6 12 3 (by kernel_rfl) h) (by rw [hni]; exact Bool.false_ne_true)
                      have hJ := hI.1 h12
                      refine wpOp_step rfl (fun K' hK => ?_)
                      replace hK := Lib.hid hK
                      go_wp2
                      exact hK.out _ _ ⟨_, (by simp only [Act.put, List.getElem?_cons_zero, List.getElem?_cons_succ, Option.getD_some, List.setIfInBounds_toArray, List.set_cons_zero, List.set_cons_succ]), JorI.not_ 3 (by decide) h12 hJ, .inl (Below.refl _ _), rfl⟩
                    · have h12 : done 12 = false := by
                        cases h : done 12 with
                        | false => rfl
                        | true => exact absurd (done_of_reach hcl 6 12 4 (by kernel_rfl) h) (by rw [hni]; exact Bool.false_ne_true)
                      have hJ := hI.1 h12
                      have d2 : t 2 = .slice (some ⟨ob, 0, none⟩) xs.length oc := hd 2 (by kernel_rfl)
                      rw [d2]
                      have d3 : t 3 = .int .i64 k := hd 3 (by kernel_rfl)
                      rw [d3]
                      refine wpOp_step rfl (fun K' hK => ?_)
                      replace hK := Lib.hid hK
                      go_wp2
                      exact hK.out _ _ ⟨_, (by simp only [Act.put, List.getElem?_cons_zero, List.getElem?_cons_succ, Option.getD_some, List.setIfInBounds_toArray, List.set_cons_zero, List.set_cons_succ]), JorI.not_ 4 (by decide) h12 hJ, .inl (Below.refl _ _), rfl⟩
                    · have h12 : done 12 = false := by
                        cases h : done 12 with
                        | false => rfl
                        | true => exact absurd (done_of_reach hcl 6 12 5 (by kernel_rfl) h) (by rw [hni]; exact Bool.false_ne_true)
                      have hJ := hI.1 h12
                      have d4 : t 4 = .pointer (some ⟨ob, k * 10, none⟩) := hd 4 (by kernel_rfl)
                      rw [d4]
                      refine wpOp_step rfl (fun K' hK => ?_)
                      replace hK := Lib.hid hK
                      go_wp2
                      exact hK.out _ _ ⟨_, (by simp only [Act.put, List.getElem?_cons_zero, List.getElem?_cons_succ, Option.getD_some, List.setIfInBounds_toArray, List.set_cons_zero, List.set_cons_succ]), JorI.not_ 5 (by decide) h12 hJ, .inl (Below.refl _ _), rfl⟩
                    · have h12 : done 12 = false := by
                        cases h : done 12 with
                        | false => rfl
                        | true => exact absurd (done_of_reach hcl 6 12 6 (by kernel_rfl) h) (by rw [hni]; exact Bool.false_ne_true)
                      have hJ := hI.1 h12
                      have d5 : t 5 = .pointer (some ⟨ob, k * 10 + 9, none⟩) := hd 5 (by kernel_rfl)
                      rw [d5]
                      have hx9 : w'.cell? ⟨ob, k * 10 + 9, none⟩ = some (.slice yA yh.length yc) := (hJ.cell (p := ⟨ob, k * 10 + 9, none⟩) hob5).trans hy9
                      refine wpOp_step rfl (fun K' hK => ?_)
                      replace hK := Lib.hid hK
                      go_wp2
                      exact hK.out _ _ ⟨_, (by simp only [Act.put, List.getElem?_cons_zero, List.getElem?_cons_succ, Option.getD_some, List.setIfInBounds_toArray, List.set_cons_zero, List.set_cons_succ]), JorI.not_ 6 (by decide) h12 hJ, .inl (Below.refl _ _), rfl⟩
                    · have h12 : done 12 = false := by
                        cases h : done 12 with
                        | false => rfl
                        | true => exact absurd (done_of_reach hcl 6 12 7 (by kernel_rfl) h) (by rw [hni]; exact Bool.false_ne_true)
                      have hJ := hI.1 h12
                      refine wpOp_step rfl (fun K' hK => ?_)
                      replace hK := Lib.hid hK
                      go_wp2
                      exact hK.out _ _ ⟨_, (by simp only [Act.put, List.getElem?_cons_zero, List.getElem?_cons_succ, Option.getD_some, List.setIfInBounds_toArray, List.set_cons_zero, List.set_cons_succ]), JorI.not_ 7 (by decide) h12 hJ, .inl (Below.refl _ _), rfl⟩
                    · have h12 : done 12 = false := by
                        cases h : done 12 with
                        | false => rfl
                        | true => exact absurd (done_of_reach hcl 6 12 8 (by kernel_rfl) h) (by rw [hni]; exact Bool.false_ne_true)
                      have hJ := hI.1 h12
                      have d7 : t 7 = .pointer (some ⟨w.heap.size, 9, none⟩) := hd 7 (by kernel_rfl)
                      rw [d7]
                      have hx9 := (KX5.below hJ KX5.lt).cell 9
                      simp only [List.getElem?_toArray, List.getElem?_cons_zero, List.getElem?_cons_succ] at hx9
                      refine wpOp_step rfl (fun K' hK => ?_)
                      replace hK := Lib.hid hK
                      go_wp2
                      exact hK.out _ _ ⟨_, (by simp only [Act.put, List.getElem?_cons_zero, List.getElem?_cons_succ, Option.getD_some, List.setIfInBounds_toArray, List.set_cons_zero, List.set_cons_succ]), JorI.not_ 8 (by decide) h12 hJ, .inl (Below.refl _ _), rfl⟩
                    · have h12 : done 12 = false := by
                        cases h : done 12 with
                        | false => rfl
                        | true => exact absurd (done_of_reach hcl 6 12 9 (by kernel_rfl) h) (by rw [hni]; exact Bool.false_ne_true)
                      have hJ := hI.1 h12
                      have d6 : t 6 = .slice yA yh.length yc := hd 6 (by kernel_rfl)
                      rw [d6]
                      have d8 : t 8 = .slice xA xh.length xc := hd 8 (by kernel_rfl)
                      rw [d8]
                      have CC := Lib.hid (JO.out w' hJ)
                      refine wpOp_step rfl (fun K' hK => ?_)
                      replace hK := Lib.hid hK
                      go_wp2_with (go_at_call 125; refine Calls.mono CC.out ?_; rintro e w4 ⟨v9, rfl, ho4, hB4⟩)
                      obtain ⟨-, A9, c9, rfl, -⟩ := id (Sl.of_own ho4)
                      exact hK.out _ _ ⟨_, (by simp only [Act.put, List.getElem?_cons_zero, List.getElem?_cons_succ, Option.getD_some, List.setIfInBounds_toArray, List.set_cons_zero, List.set_cons_succ]), JorI.not_ 9 (by decide) h12 (hJ.trans (hB4.mono hJ.size)), .inl hB4, ⟨A9, c9, rfl, own_less ho4 (by have := hJ.size; omega)⟩⟩
                    · have h12 : done 12 = false := by
                        cases h : done 12 with
                        | false => rfl
                        | true => exact absurd (done_of_reach hcl 6 12 10 (by kernel_rfl) h) (by rw [hni]; exact Bool.false_ne_true)
                      have hJ := hI.1 h12
                      have d0 : t 0 = .slice (some ⟨ob, 0, none⟩) xs.length oc := hd 0 (by kernel_rfl)
                      rw [d0]
                      have d1 : t 1 = .int .i64 k := hd 1 (by kernel_rfl)
                      rw [d1]
                      refine wpOp_step rfl (fun K' hK => ?_)
                      replace hK := Lib.hid hK
                      go_wp2
                      exact hK.out _ _ ⟨_, (by simp only [Act.put, List.getElem?_cons_zero, List.getElem?_cons_succ, Option.getD_some, List.setIfInBounds_toArray, List.set_cons_zero, List.set_cons_succ]), JorI.not_ 10 (by decide) h12 hJ, .inl (Below.refl _ _), rfl⟩
                    · have h12 : done 12 = false := by
                        cases h : done 12 with
                        | false => rfl
                        | true => exact absurd (done_of_reach hcl 6 12 11 (by kernel_rfl) h) (by rw [hni]; exact Bool.false_ne_true)
                      have hJ := hI.1 h12
                      have d10 : t 10 = .pointer (some ⟨ob, k * 10, none⟩) := hd 10 (by kernel_rfl)
                      rw [d10]
                      refine wpOp_step rfl (fun K' hK => ?_)
                      replace hK := Lib.hid hK
                      go_wp2
                      exact hK.out _ _ ⟨_, (by simp only [Act.put, List.getElem?_cons_zero, List.getElem?_cons_succ, Option.getD_some, List.setIfInBounds_toArray, List.set_cons_zero, List.set_cons_succ]), JorI.not_ 11 (by decide) h12 hJ, .inl (Below.refl _ _), rfl⟩
                    · have hJ := hI.1 hni
                      have d11 : t 11 = .pointer (some ⟨ob, k * 10 + 9, none⟩) := hd 11 (by kernel_rfl)
                      obtain ⟨A9, c9, d9, ho9⟩ := hd 9 (by kernel_rfl)
                      rw [d9, d11]
                      have hoW := own_below ho5 hJ
                      obtain ⟨-, csW, hbW⟩ := own_block hoW ob rfl
                      refine wpOp_step rfl (fun K' hK => ?_)
                      replace hK := Lib.hid hK
                      split
                      · refine wp_store_own 39 (.tmp 63) (.tmp 61) rfl (k := k * 10 + 9) [.slice A9 L.length c9] rfl rfl hoW rfl (by kernel_rfl) (by simp [Value.oneCell']) (by simp; omega) ?_
                        intro w4 ho4 hg4
                        rw [hset.out] at ho4
                        have ho94 := own_same ho9 fun k' hk' => hg4.block k' (ho9.lt k' hk').2 fun e => own_ne ho9 hbW (by decide) k' hk' (by simpa using e)
                        exact hK.out _ _ ⟨undef, rfl, ⟨fun h => absurd h (by simp [andD]), fun _ => ⟨A9, c9, ho4, ho94, w', hJ, hg4⟩⟩, .inr ⟨hg4, csW, hbW⟩, trivial⟩
                      · rename_i hno
                        exact absurd rfl hno
                  · intro done t w6 a' hI hall ha hv
                    simp only [putFrom, Act.put, Nat.reduceAdd, List.setIfInBounds_toArray, List.set_cons_zero, List.set_cons_succ] at ha
                    subst ha
                    obtain ⟨A9, c9, ho6, ho96, w7, hJ, hg6⟩ := hI.2 (hall 12 (by decide))
                    clear hv hI hall
                    have hz7 := hJ.size
                    have ho7 := own_below ho5 hJ
                    obtain ⟨-, csb, hbb⟩ := own_block ho7 ob rfl
                    have hI7 := hI5.out.call hJ
                    have hzb7 := hI7.below.size
                    go_wp2_with fail
                    go_ret
                    refine ⟨_, xs.set k ((⟨⟨y0, y1, y2, y3, y4, y5, y6, y7, y8⟩, A9, L.length, c9⟩, L) : WayY), rfl, by rw [hins1.out]; simp [gOf, List.map_set], ⟨by rw [List.length_set]; exact ho6, fun q hq => ?_, hI7.below.trans (below_of_grown hg6 hzb7 fun g hg => by simp only [Option.some.injEq] at hg; omega)⟩⟩
                    rcases List.mem_or_eq_of_mem_set hq with hq | rfl
                    · exact own_same (hI7.hops q hq) fun p hp => hg6.block p ((hI7.hops q hq).lt p hp).2 fun e => own_ne (hI7.hops q hq) hbb (by decide) p hp (by simpa using e)
                    · exact ho96
                · have hz1' : decide (z < 0) = false := decide_eq_false hz1
                  have hz2' : (z == 0) = false := by simpa using hz2
                  have hz2'' : decide (z = 0) = false := decide_eq_false hz2
                  have hins1 := hins.out
                  rw [if_neg hz1, if_neg hz2] at hins1
                  go_wp2_with fail
                  go_ret
                  exact ⟨_, xs, rfl, hins1.symm, hI5.out⟩
          | false =>
            have hins : insP (gOf xs) (⟨x0, x1, x2, x3, x4, x5, x6, x7, x8⟩, xh) = (gOf xs).take k ++ (⟨x0, x1, x2, x3, x4, x5, x6, x7, x8⟩, xh) :: (gOf xs).drop k := by
              unfold insP
              rw [show keyO (⟨x0, x1, x2, x3, x4, x5, x6, x7, x8⟩ : WayN) = (x0, x1) from rfl, hah.out]
              cases hgk : (gOf xs)[k]? with
              | none => rfl
              | some o =>
                have hkx : k < xs.length := by
                  have := (List.getElem?_eq_some_iff.1 hgk).1
                  simpa [gOf] using this
                have hgk2 : (gOf xs)[k]? = some (xs[k].1.n, xs[k].2) := gOf_getD rfl hkx
                rw [hgk] at hgk2
                simp only [Option.some.injEq] at hgk2
                have hq2 := hq1.out.symm
                rw [List.getElem?_eq_getElem hkx, decide_eq_true hkx] at hq2
                simp only [Bool.true_and, Option.map_some, Option.getD_some, decide_eq_false_iff_not] at hq2
                simp only [hgk2]
                rw [if_neg hq2]
            clear hq1 hah hrow
            replace hins := Lib.hid hins
            have hl4 := Sl.of_own hI4.out.own
            have hnc : xs.length ≤ oc := by
              obtain ⟨-, A', c', hv', hnc, -⟩ := hl4
              simp only [Value.slice.injEq, true_and] at hv'
              rw [hv'.2]
              exact hnc
            obtain ⟨vt, hrt, hst⟩ := take_ex rwayT oA xs.length oc k hk hnc
            obtain ⟨vd, hrd, hsd⟩ := drop_ex rwayT oA xs.length oc k hk hnc
            have ht4 := hst w4 _ _ hl4
            rw [flat_take yE.len xs k] at ht4
            have hdl : ∀ W, Below w4.heap.size w4 W → Sl W w4.heap.size 10 vd (xs.length - k) ((xs.drop k).flatMap yL) := fun W h => by
              have := hsd W _ _ (hl4.below h)
              rw [flat_drop yE.len xs k] at this
              exact this
            replace hdl := Lib.hid hdl
            have hone : ∀ (l : List WayY), ∀ u ∈ l.flatMap yL, u.oneCell' = true := fun l u hu => by
              obtain ⟨y, -, hu2⟩ := List.mem_flatMap.1 hu
              exact yE.one y u hu2
            replace hone := Lib.hid hone
            have hKlt := KX4.lt
            have hzb := hI4.out.below.size
            clear hst hsd hl4 hne gx
            go_wp2_with (first
              | (at_builtin; refine wpList_append rfl (.tmp 65) (.tmp 68) 22 rfl w4.heap.size rwayT (.slice none 0 0) 0 [] rfl (World.ownsRow_nil _ _ _ _) w4.heap.size vt k ((xs.take k).flatMap yL) rfl ht4 (hone.out _) (by simp only [maxLen]; omega) (by omega) (Nat.le_refl _) ?_; intro va w5 ho5 hg5 hob5; have hB5 : Below w4.heap.size w4 w5 := below_of_grown hg5 (Nat.le_refl _) (by simp [Value.ownBlock]); simp only [Nat.zero_add, List.nil_append] at ho5; have KX5 := KX4.below hB5 hKlt; have hz5 := hB5.size; clear hg5 hob5 ht4 hrt)
              | (refine wpList_load_row rfl 41 (.tmp 3) rfl w.heap.size rfl 41 #[.int .u32 x0, .int .u8 x1, .int .u32 x2, .int .u8 x3, .int .u8 x4, .int .u32 x5, .int .u32 x6, .int .u32 x7, .int .u32 x8, .slice xA xh.length xc] (0, 0) _ KX5 Tryz.underlying41 rfl (by kernel_rfl) ?_)
              | (at_builtin; refine wpList_append rfl (.tmp 70) (.tmp 72) 22 rfl w4.heap.size rwayT va k ((xs.take k).flatMap yL) rfl (own_alloc ho5 (.cells #[.int .u32 x0, .int .u8 x1, .int .u32 x2, .int .u8 x3, .int .u8 x4, .int .u32 x5, .int .u32 x6, .int .u32 x7, .int .u32 x8, .slice xA xh.length xc] 41)) _ _ 1 [.int .u32 x0, .int .u8 x1, .int .u32 x2, .int .u8 x3, .int .u8 x4, .int .u32 x5, .int .u32 x6, .int .u32 x7, .int .u32 x8, .slice xA xh.length xc] rfl (Sl.lit w5 #[.int .u32 x0, .int .u8 x1, .int .u32 x2, .int .u8 x3, .int .u8 x4, .int .u32 x5, .int .u32 x6, .int .u32 x7, .int .u32 x8, .slice xA xh.length xc] 41 (by simp [maxLen]) rfl) (by simp [Value.oneCell']) (by simp only [maxLen]; omega) (by omega) (by simp; omega) ?_; intro vb w6 ho6 hg6 hob6; have hB6 : Below w4.heap.size w4 w6 := Below.trans (hB5.alloc hz5 _) (below_of_grown hg6 (by simp; omega) (fun g hg => (ho5.lt g hg).1)); have hz6 := hB6.size; have hd6 := hdl.out w6 hB6; clear hg6 hob6)
              | (at_builtin; refine wpList_append rfl (.tmp 74) (.tmp 77) 22 rfl w4.heap.size rwayT vb (k + 1) _ rfl ho6 w4.heap.size vd (xs.length - k) ((xs.drop k).flatMap yL) rfl hd6 (hone.out _) (by simp only [maxLen]; omega) (by omega) hz6 ?_; intro vc w7 ho7 hg7 hob7)
              | fail)
            have hB7 : Below w4.heap.size w4 w7 := hB6.trans (below_of_grown hg7 hz6 (fun g hg => (ho6.lt g hg).1))
            have hfl : (xs.take k ++ ((⟨⟨x0, x1, x2, x3, x4, x5, x6, x7, x8⟩, xA, xh.length, xc⟩, xh) : WayY) :: xs.drop k).length = k + 1 + (xs.length - k) := by
              simp only [List.length_append, List.length_take, List.length_cons, List.length_drop]
              omega
            go_ret
            refine ⟨_, xs.take k ++ ((⟨⟨x0, x1, x2, x3, x4, x5, x6, x7, x8⟩, xA, xh.length, xc⟩, xh) : WayY) :: xs.drop k, rfl, by rw [hins.out]; simp [gOf, List.map_take, List.map_drop], ⟨?_, fun q hq => ?_, hI4.out.below.trans (hB7.mono hzb)⟩⟩
            · rw [hfl, List.flatMap_append, List.flatMap_cons, ← List.append_assoc]
              exact own_less ho7 hzb
            · rcases List.mem_append.1 hq with hq | hq
              · exact own_below (hI4.out.hops q (List.mem_of_mem_take hq)) hB7
              · rcases List.mem_cons.1 hq with rfl | hq
                · exact own_below hg4.out hB7
                · exact own_below (hI4.out.hops q (List.mem_of_mem_drop hq)) hB7
end Go.Proofs.YtiikagabdiphkaaGreat
