/- outer.Merge: of all ways to each prefix the best is left, in order. Conditions: the ways and their hops lie in memory. -/
import Derived.Test.YtiikagabdiphkaaGreatBesN
import Derived.Test.YtiikagabdiphkaaGreatMw
namespace Go.Proofs.YtiikagabdiphkaaGreat
open Go.RowKit Go.Lo

/-- does a way lead to a prefix? -/
def elig (g : WayG) : Bool := !(decide (g.1.addr = 0) && decide (g.1.bits = 0)) || decide (g.1.router = 0)
/-- what Merge goes through, by its lists -/
def upto2 (RA RB : List WayG) (q : Nat) : List WayG := if q = 0 then [] else if q = 1 then RA.filter elig else RA.filter elig ++ RB.filter elig
theorem upto2_len (RA RB : List WayG) (q : Nat) : (upto2 RA RB q).length ≤ RA.length + RB.length := by
  have h1 := List.length_filter_le elig RA
  have h2 := List.length_filter_le elig RB
  unfold upto2
  split
  · simp
  · split
    · omega
    · rw [List.length_append]; omega
theorem filter_take (l : List WayG) (k : Nat) (h : k < l.length) : (l.take (k + 1)).filter elig = (l.take k).filter elig ++ (if elig l[k] = true then [l[k]] else []) := by
  rw [List.take_succ_eq_append_getElem h, List.filter_append]
  congr 1
  by_cases he : elig l[k] = true
  · rw [if_pos he, List.filter_cons_of_pos he, List.filter_nil]
  · rw [if_neg he, List.filter_cons_of_neg he, List.filter_nil]

set_option maxRecDepth 100000 in
set_option maxHeartbeats 8000000 in
theorem merge_any (B : Nat) (RA RB : List WayG) (la lb : List WayV) (av bv : Value) (w : World) (hA : WaysIn w B av RA la) (hBb : WaysIn w B bv RB lb) (hB : B ≤ w.heap.size) (hk : ∀ g ∈ RA ++ RB, InO (keyO g.1)) (hsum : hopsN RA + hopsN RB ≤ 200000) (hn : la.length + lb.length ≤ 10000) :
    Calls Tryz.prog 42 #[av, bv] w fun e w' => ∃ w0, Below w.heap.size w w0 ∧ BestPost (RA.filter elig ++ RB.filter elig) w0 e w' := by
  obtain ⟨-, aA, ac, rfl, -⟩ := id hA.sl
  obtain ⟨-, bA, bc, rfl, -⟩ := id hBb.sl
  have hlA := hA.len
  have hlB := hBb.len
  have hix0 : ∀ (A1 : Option Addr) (n1 c1 : Nat) (A2 : Option Addr) (n2 c2 : Nat) W, (Instr.index 154 (.agg #[.slice A1 n1 c1, .slice A2 n2 c2]) (.int .i64 0)).run Tryz.prog W = .ok (.slice A1 n1 c1) W := fun (A1 : Option Addr) (n1 c1 : Nat) (A2 : Option Addr) (n2 c2 : Nat) W => by kernel_rfl
  have hix1 : ∀ (A1 : Option Addr) (n1 c1 : Nat) (A2 : Option Addr) (n2 c2 : Nat) W, (Instr.index 154 (.agg #[.slice A1 n1 c1, .slice A2 n2 c2]) (.int .i64 1)).run Tryz.prog W = .ok (.slice A2 n2 c2) W := fun (A1 : Option Addr) (n1 c1 : Nat) (A2 : Option Addr) (n2 c2 : Nat) W => by kernel_rfl
  replace hlA := Lib.hid hlA
  replace hlB := Lib.hid hlB
  replace hA := Lib.hid hA
  replace hBb := Lib.hid hBb
  replace hk := Lib.hid hk
  replace hsum := Lib.hid hsum
  go_enter Tryz.func42, Tryz.ntmps42
  go_wp2_with fail
  go_loopg [13, 5] 2 (fun c iv v wr => ∃ (q : Nat) (xs : List WayY), q ≤ 2 ∧ c = 2 - q ∧ iv = .int .i64 q ∧ gOf xs = upto2 RA RB q ∧ ImpR w xs v wr)
  case atStart => exact ⟨0, [], by omega, rfl, rfl, rfl, ⟨World.ownsRow_nil _ _ _ _, fun _ h => (by cases h), Below.refl _ _⟩⟩
  case round =>
    obtain ⟨q, xs, hq, rfl, rfl, hgx, hI⟩ := hrel
    obtain ⟨w1, rfl⟩ : ∃ x : World, x = wr := ⟨_, rfl⟩
    by_cases hq2 : q < 2
    · obtain ⟨Rq, lq, Aq, cq, hWq, hsub, hwh⟩ : ∃ (Rq : List WayG) (lq : List WayV) (Aq : Option Addr) (cq : Nat), Hid (WaysIn w B (.slice Aq lq.length cq) Rq lq) ∧ Hid (∀ g ∈ Rq, g ∈ RA ++ RB) ∧ ((q = 0 ∧ Rq = RA ∧ lq = la ∧ Aq = aA ∧ cq = ac) ∨ (q = 1 ∧ Rq = RB ∧ lq = lb ∧ Aq = bA ∧ cq = bc)) := by
        rcases (show q = 0 ∨ q = 1 by omega) with h | h
        · exact ⟨RA, la, aA, ac, hA, Lib.hid (fun g hg => List.mem_append_left _ hg), .inl ⟨h, rfl, rfl, rfl, rfl⟩⟩
        · exact ⟨RB, lb, bA, bc, hBb, Lib.hid (fun g hg => List.mem_append_right _ hg), .inr ⟨h, rfl, rfl, rfl, rfl⟩⟩
      have hup : Hid (upto2 RA RB (q + 1) = upto2 RA RB q ++ Rq.filter elig) := by
        refine Lib.hid ?_
        rcases hwh with ⟨rfl, rfl, -⟩ | ⟨rfl, rfl, -⟩ <;> simp [upto2]
      have hlq : lq.length ≤ 10000 := by
        rcases hwh with ⟨-, -, rfl, -⟩ | ⟨-, -, rfl, -⟩ <;> omega
      have hsq : Hid (hopsN Rq ≤ 200000) := by
        have := hsum.out
        refine Lib.hid ?_
        rcases hwh with ⟨-, rfl, -⟩ | ⟨-, rfl, -⟩ <;> omega
      have hql : (q : Int) < 2 := by omega
      replace hI := Lib.hid hI
      go_upto_region 4 with fail
      go_cut [7] (fun v wx => v = .slice Aq lq.length cq ∧ wx = w1)
      case first =>
        rcases hwh with ⟨rfl, rfl, rfl, rfl, rfl⟩ | ⟨rfl, rfl, rfl, rfl, rfl⟩
        · go_wp2_with fail
          go_meet
          case rel => exact ⟨rfl, rfl⟩
        · go_wp2_with fail
          go_meet
          case rel => exact ⟨rfl, rfl⟩
      case rest =>
        obtain ⟨rfl, rfl⟩ := hcut
        clear hwh
        go_wp2_with fail
        go_loopg [5, 18] lq.length (fun c v iv wr => ∃ (k : Nat) (ys : List WayY), k ≤ lq.length ∧ c = lq.length - k ∧ iv = .int .i64 k ∧ gOf ys = upto2 RA RB q ++ (Rq.take k).filter elig ∧ ImpR w ys v wr)
        case atStart => exact ⟨0, xs, Nat.zero_le _, rfl, rfl, by rw [hgx]; simp, hI.out⟩
        case round =>
          clear hI hgx
          obtain ⟨k, ys, hkl, rfl, rfl, hgy, hJ⟩ := hrel
          obtain ⟨w2, rfl⟩ : ∃ x : World, x = wr := ⟨_, rfl⟩
          have hz2 := hJ.below.size
          have hlR := hWq.out.len
          have hyn : ys.length ≤ 40000 := by
            have h1 := congrArg List.length hgy
            have h2 := upto2_len RA RB q
            have h3 := List.length_filter_le elig (Rq.take k)
            have h4 := hlA.out
            have h5 := hlB.out
            simp only [gOf, List.length_map, List.length_append, List.length_take] at h1 h3
            omega
          by_cases hkx : k < lq.length
          · have hkR : k < Rq.length := by omega
            obtain ⟨b, off, rfl, hb, hrow⟩ := Sl.row wayL_len (hWq.out.sl.below (hJ.below.mono hB)) hkx
            have hsl := (hWq.out.hops k hkx hkR).below (hJ.below.mono hB)
            have hn1 := hWq.out.n k hkx hkR
            have hhk : Rq[k].2.length ≤ 200000 := Nat.le_trans (hopsN_mem (List.getElem_mem hkR)) hsq.out
            have hft := filter_take Rq k hkR
            obtain ⟨x, hx⟩ : ∃ x, x = lq[k] := ⟨_, rfl⟩
            rw [← hx] at hrow hsl hn1
            clear hx
            obtain ⟨g, hg⟩ : ∃ g, g = Rq[k] := ⟨_, rfl⟩
            rw [← hg] at hsl hn1 hhk hft
            clear hg
            obtain ⟨g1, xh⟩ := g
            obtain ⟨⟨x0, x1, x2, x3, x4, x5, x6, x7, x8⟩, xA, xn, xc⟩ := x
            simp only at hn1
            subst hn1
            obtain rfl : xn = xh.length := sl_len hsl
            dsimp only at hsl hhk
            have q0 : w2.cell? ⟨b, off + k * 10, none⟩ = some (.int .u32 x0) := hrow 0 _ rfl
            have q1 : w2.cell? ⟨b, off + k * 10 + 1, none⟩ = some (.int .u8 x1) := hrow 1 _ rfl
            have q2 : w2.cell? ⟨b, off + k * 10 + 2, none⟩ = some (.int .u32 x2) := hrow 2 _ rfl
            have q3 : w2.cell? ⟨b, off + k * 10 + 3, none⟩ = some (.int .u8 x3) := hrow 3 _ rfl
            have q4 : w2.cell? ⟨b, off + k * 10 + 4, none⟩ = some (.int .u8 x4) := hrow 4 _ rfl
            have q5 : w2.cell? ⟨b, off + k * 10 + 5, none⟩ = some (.int .u32 x5) := hrow 5 _ rfl
            have q6 : w2.cell? ⟨b, off + k * 10 + 6, none⟩ = some (.int .u32 x6) := hrow 6 _ rfl
            have q7 : w2.cell? ⟨b, off + k * 10 + 7, none⟩ = some (.int .u32 x7) := hrow 7 _ rfl
            have q8 : w2.cell? ⟨b, off + k * 10 + 8, none⟩ = some (.int .u32 x8) := hrow 8 _ rfl
            have q9 : w2.cell? ⟨b, off + k * 10 + 9, none⟩ = some (.slice xA xh.length xc) := hrow 9 _ rfl
            have ik : (k : Int) < (lq.length : Int) := by omega
            have KX := Blk.new w2 38 #[.int .u32 x0, .int .u8 x1, .int .u32 x2, .int .u8 x3, .int .u8 x4, .int .u32 x5, .int .u32 x6, .int .u32 x7, .int .u32 x8, .slice xA xh.length xc]
            have hB3 : Below w2.heap.size w2 (w2.alloc (.cells #[.int .u32 x0, .int .u8 x1, .int .u32 x2, .int .u8 x3, .int .u8 x4, .int .u32 x5, .int .u32 x6, .int .u32 x7, .int .u32 x8, .slice xA xh.length xc] 38)) := (Below.refl _ _).alloc (Nat.le_refl _) _
            clear hrow
            replace hJ := Lib.hid hJ
            replace hgy := Lib.hid hgy
            replace hft := Lib.hid hft
            replace hsl := Lib.hid hsl
            replace hlR := Lib.hid hlR
            have hne : ∀ b', u5.ownBlock = some b' → b' ≠ w2.heap.size := fun b' hb' => by have := (hJ.out.own.lt b' hb').2; omega
            go_upto_region 8 with fail
            clear q0 q1 q2 q3 q4 q5 q6 q7 q8 q9
            have hJ3 := Lib.hid (hJ.out.call hB3)
            have hsl3 := Lib.hid (hsl.out.below (hB3.mono (by omega)))
            have hz3 := hB3.size
            have hXlt := KX.lt
            clear hJ hsl
            generalize w2.alloc (.cells #[.int .u32 x0, .int .u8 x1, .int .u32 x2, .int .u8 x3, .int .u8 x4, .int .u32 x5, .int .u32 x6, .int .u32 x7, .int .u32 x8, .slice xA xh.length xc] 38) = w3 at *
            have t0 := KX.cell 0
            have t1 := KX.cell 1
            have t2 := KX.cell 2
            simp only [List.getElem?_toArray, List.getElem?_cons_zero, List.getElem?_cons_succ] at t0 t1 t2
            have hneq := neq_pre0 x0 x1
            go_cut [30] (fun v wx => v = .bool (elig (⟨x0, x1, x2, x3, x4, x5, x6, x7, x8⟩, xh)) ∧ wx = w3)
            case first =>
              have hel : elig (⟨x0, x1, x2, x3, x4, x5, x6, x7, x8⟩, xh) = (!(decide (x0 = 0) && decide (x1 = 0)) || decide (x2 = 0)) := rfl
              generalize elig (⟨x0, x1, x2, x3, x4, x5, x6, x7, x8⟩, xh) = el at *
              obtain ⟨z, hz0⟩ : ∃ z, z = !(decide (x0 = 0) && decide (x1 = 0)) := ⟨_, rfl⟩
              rw [← hz0] at hneq hel
              clear hz0
              cases z <;> by_cases hx2 : x2 = 0
              all_goals
                first | subst hx2 | (have hx2' : (x2 == 0) = false := by simp [hx2])
                replace hel := Lib.hid hel
                go_wp2_with fail
                go_meet
              case rel => exact ⟨by rw [hel.out]; simp, rfl⟩
              case rel => exact ⟨by rw [hel.out]; simp [hx2], rfl⟩
              case rel => exact ⟨by rw [hel.out]; simp, rfl⟩
              case rel => exact ⟨by rw [hel.out]; simp, rfl⟩
            case rest =>
              obtain ⟨rfl, rfl⟩ := hcut
              clear t0 t1 t2 hneq
              cases hel : elig (⟨x0, x1, x2, x3, x4, x5, x6, x7, x8⟩, xh) with
              | false =>
                go_wp2_with fail
                go_roundg (lq.length - (k + 1))
                case measure => omega
                case rel =>
                  refine ⟨k + 1, ys, by omega, rfl, by go_num, ?_, hJ3.out⟩
                  rw [hft.out, hgy.out, hel]
                  simp
              | true =>
                have t9 := KX.cell 9
                simp only [List.getElem?_toArray, List.getElem?_cons_zero, List.getElem?_cons_succ] at t9
                go_upto_region 10 with (at_builtin; refine wpList_append rfl (.const (.slice none 0 0)) (.tmp 32) 36 rfl w.heap.size hopT (.slice none 0 0) 0 [] rfl (World.ownsRow_nil _ _ _ _) B (.slice xA xh.length xc) xh.length (xh.flatMap hopCells) rfl hsl3.out hops_oneCell (by simp only [maxLen]; omega) (by omega) (by omega) ?_; intro hv v3 ho3 hg3 hob3; rw [Nat.zero_add, List.nil_append] at ho3; obtain ⟨-, A9, c9, rfl, -⟩ := Sl.of_own ho3; have hS3 := below_of_grown hg3 (Nat.le_refl _) (fun g hg => by simp [Value.ownBlock] at hg); have kt3 := KX.below hS3 hXlt; have f93 := kt3.free 9; have x93 := kt3.cell 9; simp only [List.getElem?_toArray, List.getElem?_cons_zero, List.getElem?_cons_succ] at x93)
                have hz5 := hS3.size
                have hJ4 := hJ3.out.call hS3
                have kt4 := kt3.set_ 9 (.slice A9 xh.length c9)
                have ho4 := own_same (w' := v3.setCell ⟨w2.heap.size, 9, none⟩ (.slice A9 xh.length c9)) ho3 fun p hp => Below.heap_setCell v3 ⟨w2.heap.size, 9, none⟩ _ p fun e => own_ne ho3 kt3 (by decide) p hp e
                have hJ5 := hJ4.grown (grown_setCell (grown_refl v3 (some w2.heap.size)) (p := ⟨w2.heap.size, 9, none⟩) (.inl rfl) (.slice A9 xh.length c9)) fun p e => by
                  simp only [Option.some.injEq] at e
                  subst e
                  exact ⟨hz2, fun h => hne _ h rfl, _, kt3⟩
                clear t9 f93 x93 hS3 hg3 ho3 hob3 hJ4 kt3
                generalize v3.setCell ⟨w2.heap.size, 9, none⟩ (.slice A9 xh.length c9) = w4 at *
                simp only [List.setIfInBounds_toArray, List.set_cons_zero, List.set_cons_succ] at kt4
                have hJ6 := hJ5.alloc (.cells #[.int .u32 x0, .int .u8 x1, .int .u32 x2, .int .u8 x3, .int .u8 x4, .int .u32 x5, .int .u32 x6, .int .u32 x7, .int .u32 x8, .slice A9 xh.length c9] 38)
                have ho6 := own_alloc ho4 (.cells #[.int .u32 x0, .int .u8 x1, .int .u32 x2, .int .u8 x3, .int .u8 x4, .int .u32 x5, .int .u32 x6, .int .u32 x7, .int .u32 x8, .slice A9 xh.length c9] 38)
                have hz6 := hJ6.below.size
                replace hJ6 := Lib.hid hJ6
                replace ho6 := Lib.hid ho6
                clear hJ5 ho4
                go_wp2_with (first
                  | (refine wpList_load_row rfl 38 (.tmp 9) rfl w2.heap.size rfl 38 #[.int .u32 x0, .int .u8 x1, .int .u32 x2, .int .u8 x3, .int .u8 x4, .int .u32 x5, .int .u32 x6, .int .u32 x7, .int .u32 x8, .slice A9 xh.length c9] (0, 0) _ kt4 Tryz.underlying38 rfl (by kernel_rfl) ?_)
                  | (at_builtin; refine wpList_append rfl (.tmp 35) (.tmp 37) 30 rfl w.heap.size wayT u5 ys.length (ys.flatMap yL) rfl hJ6.out.own _ _ 1 [.int .u32 x0, .int .u8 x1, .int .u32 x2, .int .u8 x3, .int .u8 x4, .int .u32 x5, .int .u32 x6, .int .u32 x7, .int .u32 x8, .slice A9 xh.length c9] rfl (Sl.lit w4 #[.int .u32 x0, .int .u8 x1, .int .u32 x2, .int .u8 x3, .int .u8 x4, .int .u32 x5, .int .u32 x6, .int .u32 x7, .int .u32 x8, .slice A9 xh.length c9] 38 (by simp [maxLen]) rfl) (by simp [Value.oneCell']) (by simp only [maxLen]; omega) (by omega) (by simp at hz6 ⊢; omega) ?_; intro v7 w7 ho7 hg7 hob7)
                  | fail)
                go_roundg (lq.length - (k + 1))
                case measure => omega
                case rel =>
                  refine ⟨k + 1, ys ++ [((⟨⟨x0, x1, x2, x3, x4, x5, x6, x7, x8⟩, A9, xh.length, c9⟩, xh) : WayY)], by omega, rfl, by go_num, ?_, hJ6.out.grow rfl ho6.out ?_ hg7⟩
                  · rw [gOf_snoc, hft.out, hgy.out, hel]
                    simp
                  · rw [List.length_append, List.flatMap_append]
                    exact ho7
          · obtain rfl : k = lq.length := by omega
            rw [hlR, List.take_length] at hgy
            go_wp2_with fail
            go_roundg (2 - (q + 1))
            case measure => omega
            case rel => exact ⟨q + 1, ys, by omega, rfl, by go_num, by rw [hup.out, hgy], hJ⟩
    · obtain rfl : q = 2 := by omega
      have hen : upto2 RA RB 2 = RA.filter elig ++ RB.filter elig := by simp [upto2]
      rw [hen] at hgx
      have hlen := congrArg List.length hgx
      have hfA := List.length_filter_le elig RA
      have hfB := List.length_filter_le elig RB
      have h4 := hlA.out
      have h5 := hlB.out
      simp only [gOf, List.length_map, List.length_append] at hlen
      have hsub2 : ∀ g ∈ RA.filter elig ++ RB.filter elig, g ∈ RA ++ RB := fun g hg => by
        rcases List.mem_append.1 hg with hg | hg
        · exact List.mem_append_left _ (List.mem_filter.1 hg).1
        · exact List.mem_append_right _ (List.mem_filter.1 hg).1
      have hWx := hI.ways
      rw [hgx] at hWx
      obtain ⟨-, oA, oc, rfl, -⟩ := id (Sl.of_own hI.own)
      have hlm : (xs.map (·.1)).length = xs.length := List.length_map _
      have hC := best_any (RA.filter elig ++ RB.filter elig) (xs.map (·.1)) _ w1.heap.size w1 hWx (Nat.le_refl _) (fun g hg => hk.out g (hsub2 g hg)) (by
        have h6 := hopsN_filter elig RA
        have h7 := hopsN_filter elig RB
        have h8 := hsum.out
        rw [hopsN_append]
        omega) (by omega)
      replace hC := Lib.hid hC
      have hBx := hI.below
      clear hlen hfA hfB h4 h5 hWx hlm hgx hen
      go_wp2_with (go_at_call 84; refine Calls.mono hC.out ?_; rintro e w3 ⟨v3, xs3, rfl, hP⟩)
      go_ret
      exact ⟨w1, hBx, v3, xs3, rfl, hP⟩
end Go.Proofs.YtiikagabdiphkaaGreat
