/- lodestarref18.Merge: the document's answer. Conditions: the ways and their hops lie in memory. -/
import Derived.Test.YtiikagabdiphkaaGreatMrfA
namespace Go.Proofs.YtiikagabdiphkaaGreat
open Go.RowKit Go.Lo

/-- what the document's Merge hands back -/
def RMerPost (RA RB : List WayG) (w : World) (e : Ending) (w' : World) : Prop := ∃ v xs, e = .returned v ∧ gOf xs = insAll (RA.filter elig ++ RB.filter elig) ∧ RImp w xs v w'

theorem eql_preM (a b c d : Int) (w : World) : (binOp .eql 35 (.agg #[.int .u32 a, .int .u8 b]) (.agg #[.int .u32 c, .int .u8 d])).run Tryz.prog w = .ok (.bool (decide (a = c) && decide (b = d))) w := eql_preR a b c d w

/-- what the operations of a region that appends and stores leave -/
def AppV (base J : Nat) (vals : List (Option Value)) (L : List Hop) (i : Nat) (v : Value) (_u : Value) (W : World) : Prop :=
  (i = J → ∃ (A : Option Addr) (c : Nat), v = .slice A L.length c ∧ W.ownsRow base 46 3 (.slice A L.length c) L.length (L.flatMap hopCells)) ∧ ∀ u, vals[i]? = some (some u) → v = u
theorem AppV.turn {base J ob : Nat} {vals : List (Option Value)} {L : List Hop} (i : Nat) (v u : Value) (W W' : World) (hS : JorS ob W W') (h : AppV base J vals L i v u W) : AppV base J vals L i v u W' := ⟨fun e => by
  obtain ⟨A, c, h1, h2⟩ := h.1 e
  rcases hS with hB | ⟨hg, cs, hb⟩
  · exact ⟨A, c, h1, own_below h2 hB⟩
  · exact ⟨A, c, h1, own_same h2 fun k hk => hg.block k (h2.lt k hk).2 fun e => own_ne h2 hb (by decide) k hk (by simpa using e)⟩, h.2⟩
/-- the way's hops are the call's own -/
def AppF (w w4 : World) (ob : Nat) (n : WayN) (L : List Hop) (W : World) : Prop :=
  ∃ (A : Option Addr) (c : Nat), Blk W ob 41 (wayC n (.slice A L.length c)) ∧ W.ownsRow w.heap.size 46 3 (.slice A L.length c) L.length (L.flatMap hopCells) ∧ ∃ W0, Below w4.heap.size w4 W0 ∧ W0.grownBy W (some ob)
def AppI (w w4 : World) (ob : Nat) (n : WayN) (L : List Hop) (S : Nat) (done : Nat → Bool) (W : World) : Prop := (done S = false → Below w4.heap.size w4 W) ∧ (done S = true → AppF w w4 ob n L W)
theorem AppI.not_ {w w4 : World} {ob S : Nat} {n : WayN} {L : List Hop} {done : Nat → Bool} {W : World} (j : Nat) (hj : S ≠ j) (h : done S = false) (hB : Below w4.heap.size w4 W) : AppI w w4 ob n L S (andD done j) W := ⟨fun _ => hB, fun e => by
  unfold andD at e
  rw [if_neg hj, h] at e
  cases e⟩

set_option maxRecDepth 100000 in
set_option maxHeartbeats 8000000 in
theorem rmerge_any (B : Nat) (RA RB : List WayG) (la lb : List WayV) (av bv : Value) (w : World) (hA : WaysIn w B av RA la) (hBb : WaysIn w B bv RB lb) (hB : B ≤ w.heap.size) (hsum : hopsN RA + hopsN RB ≤ 100000) (hn : la.length + lb.length ≤ 1000) :
    Calls Tryz.prog 43 #[av, bv] w (RMerPost RA RB w) := by
  obtain ⟨-, aA, ac, rfl, -⟩ := id hA.sl
  obtain ⟨-, bA, bc, rfl, -⟩ := id hBb.sl
  have hlA := Lib.hid hA.len
  have hlB := Lib.hid hBb.len
  replace hA := Lib.hid hA
  replace hBb := Lib.hid hBb
  replace hsum := Lib.hid hsum
  have hmix : (Tryz.prog).follows .mixedOrders = true := by kernel_rfl
  have hwn : IntKind.i64.wrap ((la.length : Int) + (lb.length : Int)) = (la.length : Int) + (lb.length : Int) := IntWalk.i64_in _ (by omega)
  go_enter Tryz.func43, Tryz.ntmps43
  go_wp2_with fail
  go_loopg [5, 6] (la.length + lb.length) (fun c v iv wr => ∃ (k : Nat) (xs : List WayY), k ≤ la.length + lb.length ∧ c = la.length + lb.length - k ∧ iv = .int .i64 k ∧ gOf xs = insAll (((RA ++ RB).take k).filter elig) ∧ RImp w xs v wr)
  case atStart => exact ⟨0, [], Nat.zero_le _, rfl, rfl, rfl, ⟨World.ownsRow_nil _ _ _ _, fun _ h => (by cases h), Below.refl _ _⟩⟩
  case round =>
    obtain ⟨k, xs, hk, rfl, rfl, hgx, hI⟩ := hrel
    obtain ⟨w1, rfl⟩ : ∃ x : World, x = wr := ⟨_, rfl⟩
    have hz1 := hI.below.size
    by_cases hkn : k < la.length + lb.length
    · obtain ⟨x, xh, bq, oq, hat⟩ := both_at hA.out hBb.out hkn
      have hkR : k < RA.length + RB.length := by have := hlA.out; have := hlB.out; omega
      obtain ⟨g, hg1, hg2, hg3⟩ := both_get RA RB k hkR
      obtain rfl : g = (x.n, xh) := by
        have := hat.get
        rw [hg1] at this
        exact Option.some.inj this
      have hxs : hopsN (gOf xs) ≤ 100000 ∧ xs.length ≤ 1000 := by
        have h1 := insAll_sum (((RA ++ RB).take k).filter elig)
        have h2 := hopsN_filter elig ((RA ++ RB).take k)
        have h3 := hopsN_take (RA ++ RB) k
        have h4 := insAll_len (((RA ++ RB).take k).filter elig)
        have h5 := List.length_filter_le elig ((RA ++ RB).take k)
        have h6 := hsum.out
        have h7 := congrArg List.length hgx
        rw [hopsN_append] at h3
        rw [List.length_take] at h5
        simp only [gOf, List.length_map] at h7
        rw [hgx]
        refine ⟨by omega, by omega⟩
      have hol : ∀ y ∈ xs, y.2.length ≤ 200000 := fun y hy => by
        have h1 := hopsN_mem (show (y.1.n, y.2) ∈ gOf xs from List.mem_map.2 ⟨y, hy, rfl⟩)
        simp only at h1
        omega
      have hhk : xh.length ≤ 200000 := by
        have h1 := hopsN_mem hg3
        have h6 := hsum.out
        rw [hopsN_append] at h1
        simp only at h1
        omega
      obtain ⟨-, hbq, hrow, hsl, hside⟩ := hat
      have hft : ((RA ++ RB).take (k + 1)).filter elig = ((RA ++ RB).take k).filter elig ++ (if elig (x.n, xh) = true then [(x.n, xh)] else []) := by
        rw [hg2, List.filter_append]
        congr 1
        by_cases he : elig (x.n, xh) = true
        · rw [if_pos he, List.filter_cons_of_pos he, List.filter_nil]
        · rw [if_neg he, List.filter_cons_of_neg he, List.filter_nil]
      obtain ⟨⟨x0, x1, x2, x3, x4, x5, x6, x7, x8⟩, xA, xn, xc⟩ := x
      obtain rfl : xn = xh.length := sl_len hsl
      dsimp only at hft hsl
      obtain ⟨-, oA, oc, rfl, -⟩ := id (Sl.of_own hI.own)
      have hbqw : bq < w.heap.size := by omega
      have hBw := hI.below
      replace hrow := Lib.hid hrow
      replace hft := Lib.hid hft
      replace hgx := Lib.hid hgx
      replace hol := Lib.hid hol
      clear hg1 hg2 hg3
      have ikn : (k : Int) < (la.length : Int) + (lb.length : Int) := by omega
      have hne : ∀ b', (Value.slice oA xs.length oc).ownBlock = some b' → b' ≠ w1.heap.size := fun b' hb' => by have := (hI.own.lt b' hb').2; omega
      have K0 := Blk.new w1 41 #[.int .u32 0, .int .u8 0, .int .u32 0, .int .u8 0, .int .u8 0, .int .u32 0, .int .u32 0, .int .u32 0, .int .u32 0, .slice none 0 0]
      have hI2 := hI.alloc (.cells #[.int .u32 0, .int .u8 0, .int .u32 0, .int .u8 0, .int .u8 0, .int .u32 0, .int .u32 0, .int .u32 0, .int .u32 0, .slice none 0 0] 41)
      replace hI := Lib.hid hI
      go_upto_if 21 with fail
      clear hI hBw
      obtain ⟨b2, hb2⟩ : ∃ b, b = w1.heap.size := ⟨_, rfl⟩
      rw [← hb2] at K0 hne ⊢
      have hz2 : w.heap.size ≤ b2 := by omega
      replace hb2 := Lib.hid hb2
      generalize w1.alloc (.cells #[.int .u32 0, .int .u8 0, .int .u32 0, .int .u8 0, .int .u8 0, .int .u32 0, .int .u32 0, .int .u32 0, .int .u32 0, .slice none 0 0] 41) = w2 at *
      go_cut [] (fun wx => Blk wx b2 41 #[.int .u32 x0, .int .u8 x1, .int .u32 x2, .int .u8 x3, .int .u8 x4, .int .u32 x5, .int .u32 x6, .int .u32 x7, .int .u32 x8, .slice xA xh.length xc] ∧ RImp w xs (.slice oA xs.length oc) wx)
      case first =>
        have hb2o : (Value.slice oA xs.length oc).ownBlock ≠ some b2 := fun e => hne b2 e rfl
        have hst : Blk (w2.setRow b2 #[.int .u32 x0, .int .u8 x1, .int .u32 x2, .int .u8 x3, .int .u8 x4, .int .u32 x5, .int .u32 x6, .int .u32 x7, .int .u32 x8, .slice xA xh.length xc]) b2 41 #[.int .u32 x0, .int .u8 x1, .int .u32 x2, .int .u8 x3, .int .u8 x4, .int .u32 x5, .int .u32 x6, .int .u32 x7, .int .u32 x8, .slice xA xh.length xc] ∧ RImp w xs (.slice oA xs.length oc) (w2.setRow b2 #[.int .u32 x0, .int .u8 x1, .int .u32 x2, .int .u8 x3, .int .u8 x4, .int .u32 x5, .int .u32 x6, .int .u32 x7, .int .u32 x8, .slice xA xh.length xc]) := by
          refine ⟨setRow_heap w2 b2 _ _ _ _ K0, hI2.grown (grown_setRow w2 b2 _) fun b e => ?_⟩
          simp only [Option.some.injEq] at e
          subst e
          exact ⟨hz2, hb2o, _, _, K0, by decide⟩
        replace hst := Lib.hid hst
        have hBw := hI2.below
        rcases hside with ⟨hka, off, rfl, rfl⟩ | ⟨j, hkj, hj, off, rfl, rfl⟩
        · have ik : (k : Int) < (la.length : Int) := by omega
          have q0 : w2.cell? ⟨bq, off + k * 10, none⟩ = some (.int .u32 x0) := (hBw.cell (p := ⟨bq, off + k * 10, none⟩) hbqw).trans (hrow.out 0 _ rfl)
          have q1 : w2.cell? ⟨bq, off + k * 10 + 1, none⟩ = some (.int .u8 x1) := (hBw.cell (p := ⟨bq, off + k * 10 + 1, none⟩) hbqw).trans (hrow.out 1 _ rfl)
          have q2 : w2.cell? ⟨bq, off + k * 10 + 2, none⟩ = some (.int .u32 x2) := (hBw.cell (p := ⟨bq, off + k * 10 + 2, none⟩) hbqw).trans (hrow.out 2 _ rfl)
          have q3 : w2.cell? ⟨bq, off + k * 10 + 3, none⟩ = some (.int .u8 x3) := (hBw.cell (p := ⟨bq, off + k * 10 + 3, none⟩) hbqw).trans (hrow.out 3 _ rfl)
          have q4 : w2.cell? ⟨bq, off + k * 10 + 4, none⟩ = some (.int .u8 x4) := (hBw.cell (p := ⟨bq, off + k * 10 + 4, none⟩) hbqw).trans (hrow.out 4 _ rfl)
          have q5 : w2.cell? ⟨bq, off + k * 10 + 5, none⟩ = some (.int .u32 x5) := (hBw.cell (p := ⟨bq, off + k * 10 + 5, none⟩) hbqw).trans (hrow.out 5 _ rfl)
          have q6 : w2.cell? ⟨bq, off + k * 10 + 6, none⟩ = some (.int .u32 x6) := (hBw.cell (p := ⟨bq, off + k * 10 + 6, none⟩) hbqw).trans (hrow.out 6 _ rfl)
          have q7 : w2.cell? ⟨bq, off + k * 10 + 7, none⟩ = some (.int .u32 x7) := (hBw.cell (p := ⟨bq, off + k * 10 + 7, none⟩) hbqw).trans (hrow.out 7 _ rfl)
          have q8 : w2.cell? ⟨bq, off + k * 10 + 8, none⟩ = some (.int .u32 x8) := (hBw.cell (p := ⟨bq, off + k * 10 + 8, none⟩) hbqw).trans (hrow.out 8 _ rfl)
          have q9 : w2.cell? ⟨bq, off + k * 10 + 9, none⟩ = some (.slice xA xh.length xc) := (hBw.cell (p := ⟨bq, off + k * 10 + 9, none⟩) hbqw).trans (hrow.out 9 _ rfl)
          clear hrow hI2 hBw
          go_wp2_with (refine wpList_store_row rfl 41 (.tmp 7) (.tmp 25) rfl b2 #[.int .u32 x0, .int .u8 x1, .int .u32 x2, .int .u8 x3, .int .u8 x4, .int .u32 x5, .int .u32 x6, .int .u32 x7, .int .u32 x8, .slice xA xh.length xc] rfl rfl 41 #[.int .u32 0, .int .u8 0, .int .u32 0, .int .u8 0, .int .u8 0, .int .u32 0, .int .u32 0, .int .u32 0, .int .u32 0, .slice none 0 0] K0 (by kernel_rfl) rfl (by simp [Value.oneCell']) ?_)
          go_meet
          case rel => exact hst.out
        · have ik : ¬ (k : Int) < (la.length : Int) := by omega
          have hwj : (k : Int) - (la.length : Int) = (j : Int) := by omega
          have hws : IntKind.i64.wrap ((k : Int) - (la.length : Int)) = (j : Int) := by
            rw [hwj]
            exact IntWalk.i64_in _ (by omega)
          clear hkj
          have q0 : w2.cell? ⟨bq, off + j * 10, none⟩ = some (.int .u32 x0) := (hBw.cell (p := ⟨bq, off + j * 10, none⟩) hbqw).trans (hrow.out 0 _ rfl)
          have q1 : w2.cell? ⟨bq, off + j * 10 + 1, none⟩ = some (.int .u8 x1) := (hBw.cell (p := ⟨bq, off + j * 10 + 1, none⟩) hbqw).trans (hrow.out 1 _ rfl)
          have q2 : w2.cell? ⟨bq, off + j * 10 + 2, none⟩ = some (.int .u32 x2) := (hBw.cell (p := ⟨bq, off + j * 10 + 2, none⟩) hbqw).trans (hrow.out 2 _ rfl)
          have q3 : w2.cell? ⟨bq, off + j * 10 + 3, none⟩ = some (.int .u8 x3) := (hBw.cell (p := ⟨bq, off + j * 10 + 3, none⟩) hbqw).trans (hrow.out 3 _ rfl)
          have q4 : w2.cell? ⟨bq, off + j * 10 + 4, none⟩ = some (.int .u8 x4) := (hBw.cell (p := ⟨bq, off + j * 10 + 4, none⟩) hbqw).trans (hrow.out 4 _ rfl)
          have q5 : w2.cell? ⟨bq, off + j * 10 + 5, none⟩ = some (.int .u32 x5) := (hBw.cell (p := ⟨bq, off + j * 10 + 5, none⟩) hbqw).trans (hrow.out 5 _ rfl)
          have q6 : w2.cell? ⟨bq, off + j * 10 + 6, none⟩ = some (.int .u32 x6) := (hBw.cell (p := ⟨bq, off + j * 10 + 6, none⟩) hbqw).trans (hrow.out 6 _ rfl)
          have q7 : w2.cell? ⟨bq, off + j * 10 + 7, none⟩ = some (.int .u32 x7) := (hBw.cell (p := ⟨bq, off + j * 10 + 7, none⟩) hbqw).trans (hrow.out 7 _ rfl)
          have q8 : w2.cell? ⟨bq, off + j * 10 + 8, none⟩ = some (.int .u32 x8) := (hBw.cell (p := ⟨bq, off + j * 10 + 8, none⟩) hbqw).trans (hrow.out 8 _ rfl)
          have q9 : w2.cell? ⟨bq, off + j * 10 + 9, none⟩ = some (.slice xA xh.length xc) := (hBw.cell (p := ⟨bq, off + j * 10 + 9, none⟩) hbqw).trans (hrow.out 9 _ rfl)
          clear hrow hI2 hBw
          go_wp2_with (refine wpList_store_row rfl 41 (.tmp 7) (.tmp 32) rfl b2 #[.int .u32 x0, .int .u8 x1, .int .u32 x2, .int .u8 x3, .int .u8 x4, .int .u32 x5, .int .u32 x6, .int .u32 x7, .int .u32 x8, .slice xA xh.length xc] rfl rfl 41 #[.int .u32 0, .int .u8 0, .int .u32 0, .int .u8 0, .int .u8 0, .int .u32 0, .int .u32 0, .int .u32 0, .int .u32 0, .slice none 0 0] K0 (by kernel_rfl) rfl (by simp [Value.oneCell']) ?_)
          go_meet
          case rel => exact hst.out
      case rest =>
        obtain ⟨K3, hI3⟩ := hcut
        obtain ⟨w3, rfl⟩ : ∃ x : World, x = wc := ⟨_, rfl⟩
        clear K0 hI2
        have f0 := K3.cell 0
        have f1 := K3.cell 1
        have f2 := K3.cell 2
        simp only [List.getElem?_toArray, List.getElem?_cons_zero, List.getElem?_cons_succ] at f0 f1 f2
        replace hI3 := Lib.hid hI3
        replace K3 := Lib.hid K3
        go_upto_region 9 with fail
        go_cut [41] (fun v wx => v = .bool (!(elig (⟨x0, x1, x2, x3, x4, x5, x6, x7, x8⟩, xh))) ∧ wx = w3)
        case first =>
          have heqz := fun W => eql_preM x0 x1 0 0 W
          have hel : elig (⟨x0, x1, x2, x3, x4, x5, x6, x7, x8⟩, xh) = (!(decide (x0 = 0) && decide (x1 = 0)) || decide (x2 = 0)) := rfl
          generalize elig (⟨x0, x1, x2, x3, x4, x5, x6, x7, x8⟩, xh) = el at *
          generalize (decide (x0 = 0) && decide (x1 = 0)) = z at heqz hel
          replace hel := Lib.hid hel
          cases z
          · go_wp2_with fail
            go_meet
            case rel => exact ⟨by rw [hel.out]; simp, rfl⟩
          · by_cases he2 : x2 = 0
            · subst he2
              go_wp2_with fail
              go_meet
              case rel => exact ⟨by rw [hel.out]; simp, rfl⟩
            · have he2' : (x2 != 0) = true := by simp [he2]
              go_wp2_with fail
              go_meet
              case rel => exact ⟨by rw [hel.out]; simp [he2], rfl⟩
        case rest =>
          obtain ⟨rfl, rfl⟩ := hcut
          obtain ⟨w3, rfl⟩ : ∃ x : World, x = wc := ⟨_, rfl⟩
          clear f0 f1 f2
          have hft1 := hft.out
          cases hel : elig (⟨x0, x1, x2, x3, x4, x5, x6, x7, x8⟩, xh) with
          | false =>
            rw [hel, if_neg Bool.false_ne_true, List.append_nil] at hft1
            clear hel hft hside hrow hsl
            have hgx1 : gOf xs = insAll (((RA ++ RB).take (k + 1)).filter elig) := by rw [hft1]; exact hgx.out
            rw [show (!false) = true from rfl]
            replace hgx1 := Lib.hid hgx1
            clear hgx hft1
            go_wp2_with fail
            go_roundg (la.length + lb.length - (k + 1))
            case measure => omega
            case rel => exact ⟨k + 1, xs, by omega, rfl, by go_num, hgx1.out, hI3.out⟩
          | true =>
            rw [hel, if_pos rfl] at hft1
            clear hel hft
            have hgx1 : ∀ xs' : List WayY, gOf xs' = insP (gOf xs) (⟨x0, x1, x2, x3, x4, x5, x6, x7, x8⟩, xh) → gOf xs' = insAll (((RA ++ RB).take (k + 1)).filter elig) := fun xs' h => by rw [hft1, insAll_snoc, h, hgx.out]
            rw [show (!true) = false from rfl]
            replace hgx1 := Lib.hid hgx1
            clear hgx hft1
            have hf9 := K3.out.free 9
            have hc9 := K3.out.cell 9
            simp only [List.getElem?_toArray, List.getElem?_cons_zero, List.getElem?_cons_succ] at hc9
            have hb2o : (Value.slice oA xs.length oc).ownBlock ≠ some b2 := fun e => hne b2 e rfl
            have hg9 := grown_setCell (grown_refl w3 (some b2)) (p := ⟨b2, 9, none⟩) (.inl rfl) (.slice none 0 0)
            have K4 : Blk (w3.setCell ⟨b2, 9, none⟩ (.slice none 0 0)) b2 41 #[.int .u32 x0, .int .u8 x1, .int .u32 x2, .int .u8 x3, .int .u8 x4, .int .u32 x5, .int .u32 x6, .int .u32 x7, .int .u32 x8, .slice none 0 0] := K3.out.set_ 9 _
            have hI4 := Lib.hid (hI3.out.grown hg9 fun b e => (by simp only [Option.some.injEq] at e; subst e; exact ⟨hz2, hb2o, _, _, K3.out, by decide⟩))
            replace K4 := Lib.hid K4
            clear hI3 hg9
            go_upto_if 46 with fail
            clear hf9 hc9 K3
            generalize w3.setCell ⟨b2, 9, none⟩ (.slice none 0 0) = w4 at *
            have hz4 := hI4.out.below.size
            replace K4 := K4.out
            have hslW := Lib.hid (fun (W : World) (h : Below w4.heap.size w4 W) => hsl.keep fun p hp => (hI4.out.below.trans (h.mono hz4)).cell (by omega))
            go_cut [] (fun wx => ∃ (A9 : Option Addr) (c9 : Nat), Blk wx b2 41 #[.int .u32 x0, .int .u8 x1, .int .u32 x2, .int .u8 x3, .int .u8 x4, .int .u32 x5, .int .u32 x6, .int .u32 x7, .int .u32 x8, .slice A9 xh.length c9] ∧ wx.ownsRow w.heap.size 46 3 (.slice A9 xh.length c9) xh.length (xh.flatMap hopCells) ∧ RImp w xs (.slice oA xs.length oc) wx)
            case first =>
              clear hgx1
              rcases hside with ⟨hka, off, rfl, rfl⟩ | ⟨j, hkj, hj, off, rfl, rfl⟩
              · have ik : (k : Int) < (la.length : Int) := by omega
                have hx9 := Lib.hid (fun (W : World) (h : Below w4.heap.size w4 W) => ((hI4.out.below.trans (h.mono hz4)).cell (p := ⟨bq, off + k * 10 + 9, none⟩) hbqw).trans (hrow.out 9 _ rfl))
                clear hrow hsl
                rw [decide_eq_true hka]
                go_upto_region 12 with fail
                refine wp_region_done [some 47, some 48, some 49, some 50, some 51, some 52, some 53, some 54, some 55, none] (AppI w w4 b2 ⟨x0, x1, x2, x3, x4, x5, x6, x7, x8⟩ xh 9) (JorS b2) id (AppV w.heap.size 7 [some (.pointer (some ⟨b2, 9, none⟩)), some (.slice none 0 0), some (.slice (some ⟨bq, off, none⟩) la.length ac), some (.int .i64 k), some (.pointer (some ⟨bq, off + k * 10, none⟩)), some (.pointer (some ⟨bq, off + k * 10 + 9, none⟩)), some (.slice xA xh.length xc), none, some (.pointer (some ⟨b2, 9, none⟩)), none] xh) hmix (by kernel_rfl) rfl (by decide) (by kernel_rfl) AppV.turn ⟨fun _ => (Below.refl _ _).drew, fun h => by cases h⟩ ?_ ?_
                · intro done t w1' a' hI ha hcl j1 hlt hni hd
                  simp only [putFrom, Act.put, Nat.reduceAdd, List.setIfInBounds_toArray, List.set_cons_zero, List.set_cons_succ] at ha
                  subst ha
                  replace hlt : j1 < 10 := hlt
                  rcases (show j1 = 0 ∨ j1 = 1 ∨ j1 = 2 ∨ j1 = 3 ∨ j1 = 4 ∨ j1 = 5 ∨ j1 = 6 ∨ j1 = 7 ∨ j1 = 8 ∨ j1 = 9 by omega) with rfl | rfl | rfl | rfl | rfl | rfl | rfl | rfl | rfl | rfl
                  · have hS : done 9 = false := by
                      cases h : done 9 with
                      | false => rfl
                      | true => exact absurd (done_of_reach hcl 9 9 0 (by kernel_rfl) h) (by rw [hni]; exact Bool.false_ne_true)
                    have hJ := hI.1 hS
                    refine wpOp_step rfl (fun K' hK => ?_)
                    replace hK := Lib.hid hK
                    go_wp2
                    exact hK.out _ _ ⟨_, (by simp only [Act.put, List.getElem?_cons_zero, Option.getD_some, List.setIfInBounds_toArray, List.set_cons_zero, List.set_cons_succ]), AppI.not_ 0 (by decide) hS hJ, .inl (Below.refl _ _), ⟨fun h => absurd h (by decide), fun u hu => Option.some.inj (Option.some.inj hu)⟩⟩
                  · have hS : done 9 = false := by
                      cases h : done 9 with
                      | false => rfl
                      | true => exact absurd (done_of_reach hcl 9 9 1 (by kernel_rfl) h) (by rw [hni]; exact Bool.false_ne_true)
                    have hJ := hI.1 hS
                    have d0 : t 0 = .pointer (some ⟨b2, 9, none⟩) := (hd 0 (by kernel_rfl)).2 _ rfl
                    rw [d0]
                    have KW := (K4.below hJ K4.lt).cell 9
                    simp only [List.getElem?_toArray, List.getElem?_cons_zero, List.getElem?_cons_succ] at KW
                    refine wpOp_step rfl (fun K' hK => ?_)
                    replace hK := Lib.hid hK
                    go_wp2
                    exact hK.out _ _ ⟨_, (by simp only [Act.put, List.getElem?_cons_zero, List.getElem?_cons_succ, Option.getD_some, List.setIfInBounds_toArray, List.set_cons_zero, List.set_cons_succ]), AppI.not_ 1 (by decide) hS hJ, .inl (Below.refl _ _), ⟨fun h => absurd h (by decide), fun u hu => Option.some.inj (Option.some.inj hu)⟩⟩
                  · have hS : done 9 = false := by
                      cases h : done 9 with
                      | false => rfl
                      | true => exact absurd (done_of_reach hcl 9 9 2 (by kernel_rfl) h) (by rw [hni]; exact Bool.false_ne_true)
                    have hJ := hI.1 hS
                    refine wpOp_step rfl (fun K' hK => ?_)
                    replace hK := Lib.hid hK
                    go_wp2
                    exact hK.out _ _ ⟨_, (by simp only [Act.put, List.getElem?_cons_zero, List.getElem?_cons_succ, Option.getD_some, List.setIfInBounds_toArray, List.set_cons_zero, List.set_cons_succ]), AppI.not_ 2 (by decide) hS hJ, .inl (Below.refl _ _), ⟨fun h => absurd h (by decide), fun u hu => Option.some.inj (Option.some.inj hu)⟩⟩
                  · have hS : done 9 = false := by
                      cases h : done 9 with
                      | false => rfl
                      | true => exact absurd (done_of_reach hcl 9 9 3 (by kernel_rfl) h) (by rw [hni]; exact Bool.false_ne_true)
                    have hJ := hI.1 hS
                    refine wpOp_step rfl (fun K' hK => ?_)
                    replace hK := Lib.hid hK
                    go_wp2
                    exact hK.out _ _ ⟨_, (by simp only [Act.put, List.getElem?_cons_zero, List.getElem?_cons_succ, Option.getD_some, List.setIfInBounds_toArray, List.set_cons_zero, List.set_cons_succ]), AppI.not_ 3 (by decide) hS hJ, .inl (Below.refl _ _), ⟨fun h => absurd h (by decide), fun u hu => Option.some.inj (Option.some.inj hu)⟩⟩
                  · have hS : done 9 = false := by
                      cases h : done 9 with
                      | false => rfl
                      | true => exact absurd (done_of_reach hcl 9 9 4 (by kernel_rfl) h) (by rw [hni]; exact Bool.false_ne_true)
                    have hJ := hI.1 hS
                    have d2 : t 2 = .slice (some ⟨bq, off, none⟩) la.length ac := (hd 2 (by kernel_rfl)).2 _ rfl
                    rw [d2]
                    have d3 : t 3 = .int .i64 k := (hd 3 (by kernel_rfl)).2 _ rfl
                    rw [d3]
                    refine wpOp_step rfl (fun K' hK => ?_)
                    replace hK := Lib.hid hK
                    go_wp2
                    exact hK.out _ _ ⟨_, (by simp only [Act.put, List.getElem?_cons_zero, List.getElem?_cons_succ, Option.getD_some, List.setIfInBounds_toArray, List.set_cons_zero, List.set_cons_succ]), AppI.not_ 4 (by decide) hS hJ, .inl (Below.refl _ _), ⟨fun h => absurd h (by decide), fun u hu => Option.some.inj (Option.some.inj hu)⟩⟩
                  · have hS : done 9 = false := by
                      cases h : done 9 with
                      | false => rfl
                      | true => exact absurd (done_of_reach hcl 9 9 5 (by kernel_rfl) h) (by rw [hni]; exact Bool.false_ne_true)
                    have hJ := hI.1 hS
                    have d4 : t 4 = .pointer (some ⟨bq, off + k * 10, none⟩) := (hd 4 (by kernel_rfl)).2 _ rfl
                    rw [d4]
                    refine wpOp_step rfl (fun K' hK => ?_)
                    replace hK := Lib.hid hK
                    go_wp2
                    exact hK.out _ _ ⟨_, (by simp only [Act.put, List.getElem?_cons_zero, List.getElem?_cons_succ, Option.getD_some, List.setIfInBounds_toArray, List.set_cons_zero, List.set_cons_succ]), AppI.not_ 5 (by decide) hS hJ, .inl (Below.refl _ _), ⟨fun h => absurd h (by decide), fun u hu => Option.some.inj (Option.some.inj hu)⟩⟩
                  · have hS : done 9 = false := by
                      cases h : done 9 with
                      | false => rfl
                      | true => exact absurd (done_of_reach hcl 9 9 6 (by kernel_rfl) h) (by rw [hni]; exact Bool.false_ne_true)
                    have hJ := hI.1 hS
                    have d5 : t 5 = .pointer (some ⟨bq, off + k * 10 + 9, none⟩) := (hd 5 (by kernel_rfl)).2 _ rfl
                    rw [d5]
                    have hc := hx9.out w1' hJ
                    refine wpOp_step rfl (fun K' hK => ?_)
                    replace hK := Lib.hid hK
                    go_wp2
                    exact hK.out _ _ ⟨_, (by simp only [Act.put, List.getElem?_cons_zero, List.getElem?_cons_succ, Option.getD_some, List.setIfInBounds_toArray, List.set_cons_zero, List.set_cons_succ]), AppI.not_ 6 (by decide) hS hJ, .inl (Below.refl _ _), ⟨fun h => absurd h (by decide), fun u hu => Option.some.inj (Option.some.inj hu)⟩⟩
                  · have hS : done 9 = false := by
                      cases h : done 9 with
                      | false => rfl
                      | true => exact absurd (done_of_reach hcl 9 9 7 (by kernel_rfl) h) (by rw [hni]; exact Bool.false_ne_true)
                    have hJ := hI.1 hS
                    have d1 : t 1 = .slice none 0 0 := (hd 1 (by kernel_rfl)).2 _ rfl
                    rw [d1]
                    have d6 : t 6 = .slice xA xh.length xc := (hd 6 (by kernel_rfl)).2 _ rfl
                    rw [d6]
                    refine wpOp_step rfl (fun K' hK => ?_)
                    replace hK := Lib.hid hK
                    split
                    · refine wp_append (.tmp 48) (.tmp 53) 39 rfl w.heap.size rhopT (.slice none 0 0) 0 [] rfl (World.ownsRow_nil _ _ _ _) B (.slice xA xh.length xc) xh.length (xh.flatMap hopCells) rfl (hslW.out w1' hJ) hops_oneCell (by simp only [maxLen]; omega) (by omega) (by have := hJ.size; omega) ?_
                      intro v6 w6 ho6 hg6 hb6
                      simp only [Nat.zero_add, List.nil_append] at ho6
                      have hB6 := below_of_grown hg6 (Nat.le_refl _) (fun g hg => by cases hg)
                      obtain ⟨-, A9, c9, rfl, -⟩ := id (Sl.of_own ho6)
                      exact hK.out _ _ ⟨_, rfl, AppI.not_ 7 (by decide) hS (hJ.trans (hB6.mono hJ.size)), .inl hB6, ⟨fun _ => ⟨A9, c9, rfl, ho6⟩, fun u hu => by cases hu⟩⟩
                    · rename_i hno
                      exact absurd rfl hno
                  · have hS : done 9 = false := by
                      cases h : done 9 with
                      | false => rfl
                      | true => exact absurd (done_of_reach hcl 9 9 8 (by kernel_rfl) h) (by rw [hni]; exact Bool.false_ne_true)
                    have hJ := hI.1 hS
                    refine wpOp_step rfl (fun K' hK => ?_)
                    replace hK := Lib.hid hK
                    go_wp2
                    exact hK.out _ _ ⟨_, (by simp only [Act.put, List.getElem?_cons_zero, List.getElem?_cons_succ, Option.getD_some, List.setIfInBounds_toArray, List.set_cons_zero, List.set_cons_succ]), AppI.not_ 8 (by decide) hS hJ, .inl (Below.refl _ _), ⟨fun h => absurd h (by decide), fun u hu => Option.some.inj (Option.some.inj hu)⟩⟩
                  · have hJ := hI.1 hni
                    obtain ⟨A9, c9, d9, ho9⟩ := (hd 7 (by kernel_rfl)).1 rfl
                    rw [d9]
                    have d8 : t 8 = .pointer (some ⟨b2, 9, none⟩) := (hd 8 (by kernel_rfl)).2 _ rfl
                    rw [d8]
                    refine wpOp_step rfl (fun K' hK => ?_)
                    replace hK := Lib.hid hK
                    have KW := K4.below hJ K4.lt
                    have hc9 := KW.cell 9
                    simp only [List.getElem?_toArray, List.getElem?_cons_zero, List.getElem?_cons_succ] at hc9
                    have hf9 := KW.free 9
                    have hg9 := grown_setCell (grown_refl w1' (some b2)) (p := ⟨b2, 9, none⟩) (.inl rfl) (.slice A9 xh.length c9)
                    have hb9 : Blk (w1'.setCell ⟨b2, 9, none⟩ (.slice A9 xh.length c9)) b2 41 (wayC ⟨x0, x1, x2, x3, x4, x5, x6, x7, x8⟩ (.slice A9 xh.length c9)) := KW.set_ 9 _
                    have ho10 := own_same ho9 fun k' hk' => hg9.block k' (ho9.lt k' hk').2 fun e => own_ne ho9 KW (by decide) k' hk' (by simpa using e)
                    replace ho10 := Lib.hid ho10
                    replace hb9 := Lib.hid hb9
                    replace hg9 := Lib.hid hg9
                    replace KW := Lib.hid KW
                    clear ho9
                    go_wp2
                    exact hK.out _ _ ⟨undef, rfl, ⟨fun h => absurd h (by simp [andD]), fun _ => ⟨A9, c9, hb9.out, ho10.out, w1', hJ, hg9.out⟩⟩, .inr ⟨hg9.out, _, KW.out⟩, ⟨fun h => absurd h (by decide), fun u hu => by cases hu⟩⟩
                · intro done t w6 a' hI hall ha hv
                  simp only [putFrom, Act.put, Nat.reduceAdd, List.setIfInBounds_toArray, List.set_cons_zero, List.set_cons_succ] at ha
                  subst ha
                  obtain ⟨A9, c9, hb6, ho6, w7, hJ, hg6⟩ := hI.2 (hall 9 (by decide))
                  clear hv hI hall
                  have hI7 := hI4.out.call hJ
                  have K7 := K4.below hJ K4.lt
                  have hI8 := Lib.hid (hI7.grown hg6 fun b e => (by simp only [Option.some.injEq] at e; subst e; exact ⟨hz2, hb2o, _, _, K7, by decide⟩))
                  go_wp2_with fail
                  go_meet
                  case rel => exact ⟨A9, c9, hb6, ho6, hI8.out⟩
              · have ik : ¬ (k : Int) < (la.length : Int) := by omega
                have hwj : (k : Int) - (la.length : Int) = (j : Int) := by omega
                have hws : IntKind.i64.wrap ((k : Int) - (la.length : Int)) = (j : Int) := by
                  rw [hwj]
                  exact IntWalk.i64_in _ (by omega)
                have hkna : ¬ k < la.length := by omega
                rw [decide_eq_false hkna]
                clear hkj
                have hx9 := Lib.hid (fun (W : World) (h : Below w4.heap.size w4 W) => ((hI4.out.below.trans (h.mono hz4)).cell (p := ⟨bq, off + j * 10 + 9, none⟩) hbqw).trans (hrow.out 9 _ rfl))
                clear hrow hsl
                go_upto_region 13 with fail
                refine wp_region_done [some 56, some 57, some 58, some 59, some 60, some 61, some 62, some 63, some 64, some 65, some 66, some 67, none] (AppI w w4 b2 ⟨x0, x1, x2, x3, x4, x5, x6, x7, x8⟩ xh 12) (JorS b2) id (AppV w.heap.size 10 [some (.pointer (some ⟨b2, 9, none⟩)), some (.slice none 0 0), some (.slice (some ⟨bq, off, none⟩) lb.length bc), some (.int .i64 k), some (.slice aA la.length ac), some (.int .i64 la.length), some (.int .i64 j), some (.pointer (some ⟨bq, off + j * 10, none⟩)), some (.pointer (some ⟨bq, off + j * 10 + 9, none⟩)), some (.slice xA xh.length xc), none, some (.pointer (some ⟨b2, 9, none⟩)), none] xh) hmix (by kernel_rfl) rfl (by decide) (by kernel_rfl) AppV.turn ⟨fun _ => (Below.refl _ _).drew, fun h => by cases h⟩ ?_ ?_
                · intro done t w1' a' hI ha hcl j1 hlt hni hd
                  simp only [putFrom, Act.put, Nat.reduceAdd, List.setIfInBounds_toArray, List.set_cons_zero, List.set_cons_succ] at ha
                  subst ha
                  replace hlt : j1 < 13 := hlt
                  rcases (show j1 = 0 ∨ j1 = 1 ∨ j1 = 2 ∨ j1 = 3 ∨ j1 = 4 ∨ j1 = 5 ∨ j1 = 6 ∨ j1 = 7 ∨ j1 = 8 ∨ j1 = 9 ∨ j1 = 10 ∨ j1 = 11 ∨ j1 = 12 by omega) with rfl | rfl | rfl | rfl | rfl | rfl | rfl | rfl | rfl | rfl | rfl | rfl | rfl
                  · have hS : done 12 = false := by
                      cases h : done 12 with
                      | false => rfl
                      | true => exact absurd (done_of_reach hcl 9 12 0 (by kernel_rfl) h) (by rw [hni]; exact Bool.false_ne_true)
                    have hJ := hI.1 hS
                    refine wpOp_step rfl (fun K' hK => ?_)
                    replace hK := Lib.hid hK
                    go_wp2
                    exact hK.out _ _ ⟨_, (by simp only [Act.put, List.getElem?_cons_zero, Option.getD_some, List.setIfInBounds_toArray, List.set_cons_zero, List.set_cons_succ]), AppI.not_ 0 (by decide) hS hJ, .inl (Below.refl _ _), ⟨fun h => absurd h (by decide), fun u hu => Option.some.inj (Option.some.inj hu)⟩⟩
                  · have hS : done 12 = false := by
                      cases h : done 12 with
                      | false => rfl
                      | true => exact absurd (done_of_reach hcl 9 12 1 (by kernel_rfl) h) (by rw [hni]; exact Bool.false_ne_true)
                    have hJ := hI.1 hS
                    have d0 : t 0 = .pointer (some ⟨b2, 9, none⟩) := (hd 0 (by kernel_rfl)).2 _ rfl
                    rw [d0]
                    have KW := (K4.below hJ K4.lt).cell 9
                    simp only [List.getElem?_toArray, List.getElem?_cons_zero, List.getElem?_cons_succ] at KW
                    refine wpOp_step rfl (fun K' hK => ?_)
                    replace hK := Lib.hid hK
                    go_wp2
                    exact hK.out _ _ ⟨_, (by simp only [Act.put, List.getElem?_cons_zero, List.getElem?_cons_succ, Option.getD_some, List.setIfInBounds_toArray, List.set_cons_zero, List.set_cons_succ]), AppI.not_ 1 (by decide) hS hJ, .inl (Below.refl _ _), ⟨fun h => absurd h (by decide), fun u hu => Option.some.inj (Option.some.inj hu)⟩⟩
                  · have hS : done 12 = false := by
                      cases h : done 12 with
                      | false => rfl
                      | true => exact absurd (done_of_reach hcl 9 12 2 (by kernel_rfl) h) (by rw [hni]; exact Bool.false_ne_true)
                    have hJ := hI.1 hS
                    refine wpOp_step rfl (fun K' hK => ?_)
                    replace hK := Lib.hid hK
                    go_wp2
                    exact hK.out _ _ ⟨_, (by simp only [Act.put, List.getElem?_cons_zero, List.getElem?_cons_succ, Option.getD_some, List.setIfInBounds_toArray, List.set_cons_zero, List.set_cons_succ]), AppI.not_ 2 (by decide) hS hJ, .inl (Below.refl _ _), ⟨fun h => absurd h (by decide), fun u hu => Option.some.inj (Option.some.inj hu)⟩⟩
                  · have hS : done 12 = false := by
                      cases h : done 12 with
                      | false => rfl
                      | true => exact absurd (done_of_reach hcl 9 12 3 (by kernel_rfl) h) (by rw [hni]; exact Bool.false_ne_true)
                    have hJ := hI.1 hS
                    refine wpOp_step rfl (fun K' hK => ?_)
                    replace hK := Lib.hid hK
                    go_wp2
                    exact hK.out _ _ ⟨_, (by simp only [Act.put, List.getElem?_cons_zero, List.getElem?_cons_succ, Option.getD_some, List.setIfInBounds_toArray, List.set_cons_zero, List.set_cons_succ]), AppI.not_ 3 (by decide) hS hJ, .inl (Below.refl _ _), ⟨fun h => absurd h (by decide), fun u hu => Option.some.inj (Option.some.inj hu)⟩⟩
                  · have hS : done 12 = false := by
                      cases h : done 12 with
                      | false => rfl
                      | true => exact absurd (done_of_reach hcl 9 12 4 (by kernel_rfl) h) (by rw [hni]; exact Bool.false_ne_true)
                    have hJ := hI.1 hS
                    refine wpOp_step rfl (fun K' hK => ?_)
                    replace hK := Lib.hid hK
                    go_wp2
                    exact hK.out _ _ ⟨_, (by simp only [Act.put, List.getElem?_cons_zero, List.getElem?_cons_succ, Option.getD_some, List.setIfInBounds_toArray, List.set_cons_zero, List.set_cons_succ]), AppI.not_ 4 (by decide) hS hJ, .inl (Below.refl _ _), ⟨fun h => absurd h (by decide), fun u hu => Option.some.inj (Option.some.inj hu)⟩⟩
                  · have hS : done 12 = false := by
                      cases h : done 12 with
                      | false => rfl
                      | true => exact absurd (done_of_reach hcl 9 12 5 (by kernel_rfl) h) (by rw [hni]; exact Bool.false_ne_true)
                    have hJ := hI.1 hS
                    have d4 : t 4 = .slice aA la.length ac := (hd 4 (by kernel_rfl)).2 _ rfl
                    rw [d4]
                    refine wpOp_step rfl (fun K' hK => ?_)
                    replace hK := Lib.hid hK
                    go_wp2
                    exact hK.out _ _ ⟨_, (by simp only [Act.put, List.getElem?_cons_zero, List.getElem?_cons_succ, Option.getD_some, List.setIfInBounds_toArray, List.set_cons_zero, List.set_cons_succ]), AppI.not_ 5 (by decide) hS hJ, .inl (Below.refl _ _), ⟨fun h => absurd h (by decide), fun u hu => Option.some.inj (Option.some.inj hu)⟩⟩
                  · have hS : done 12 = false := by
                      cases h : done 12 with
                      | false => rfl
                      | true => exact absurd (done_of_reach hcl 9 12 6 (by kernel_rfl) h) (by rw [hni]; exact Bool.false_ne_true)
                    have hJ := hI.1 hS
                    have d3 : t 3 = .int .i64 k := (hd 3 (by kernel_rfl)).2 _ rfl
                    rw [d3]
                    have d5 : t 5 = .int .i64 la.length := (hd 5 (by kernel_rfl)).2 _ rfl
                    rw [d5]
                    refine wpOp_step rfl (fun K' hK => ?_)
                    replace hK := Lib.hid hK
                    go_wp2
                    exact hK.out _ _ ⟨_, (by simp only [Act.put, List.getElem?_cons_zero, List.getElem?_cons_succ, Option.getD_some, List.setIfInBounds_toArray, List.set_cons_zero, List.set_cons_succ]), AppI.not_ 6 (by decide) hS hJ, .inl (Below.refl _ _), ⟨fun h => absurd h (by decide), fun u hu => Option.some.inj (Option.some.inj hu)⟩⟩
                  · have hS : done 12 = false := by
                      cases h : done 12 with
                      | false => rfl
                      | true => exact absurd (done_of_reach hcl 9 12 7 (by kernel_rfl) h) (by rw [hni]; exact Bool.false_ne_true)
                    have hJ := hI.1 hS
                    have d2 : t 2 = .slice (some ⟨bq, off, none⟩) lb.length bc := (hd 2 (by kernel_rfl)).2 _ rfl
                    rw [d2]
                    have d6 : t 6 = .int .i64 j := (hd 6 (by kernel_rfl)).2 _ rfl
                    rw [d6]
                    refine wpOp_step rfl (fun K' hK => ?_)
                    replace hK := Lib.hid hK
                    go_wp2
                    exact hK.out _ _ ⟨_, (by simp only [Act.put, List.getElem?_cons_zero, List.getElem?_cons_succ, Option.getD_some, List.setIfInBounds_toArray, List.set_cons_zero, List.set_cons_succ]), AppI.not_ 7 (by decide) hS hJ, .inl (Below.refl _ _), ⟨fun h => absurd h (by decide), fun u hu => Option.some.inj (Option.some.inj hu)⟩⟩
                  · have hS : done 12 = false := by
                      cases h : done 12 with
                      | false => rfl
                      | true => exact absurd (done_of_reach hcl 9 12 8 (by kernel_rfl) h) (by rw [hni]; exact Bool.false_ne_true)
                    have hJ := hI.1 hS
                    have d7 : t 7 = .pointer (some ⟨bq, off + j * 10, none⟩) := (hd 7 (by kernel_rfl)).2 _ rfl
                    rw [d7]
                    refine wpOp_step rfl (fun K' hK => ?_)
                    replace hK := Lib.hid hK
                    go_wp2
                    exact hK.out _ _ ⟨_, (by simp only [Act.put, List.getElem?_cons_zero, List.getElem?_cons_succ, Option.getD_some, List.setIfInBounds_toArray, List.set_cons_zero, List.set_cons_succ]), AppI.not_ 8 (by decide) hS hJ, .inl (Below.refl _ _), ⟨fun h => absurd h (by decide), fun u hu => Option.some.inj (Option.some.inj hu)⟩⟩
                  · have hS : done 12 = false := by
                      cases h : done 12 with
                      | false => rfl
                      | true => exact absurd (done_of_reach hcl 9 12 9 (by kernel_rfl) h) (by rw [hni]; exact Bool.false_ne_true)
                    have hJ := hI.1 hS
                    have d8 : t 8 = .pointer (some ⟨bq, off + j * 10 + 9, none⟩) := (hd 8 (by kernel_rfl)).2 _ rfl
                    rw [d8]
                    have hc := hx9.out w1' hJ
                    refine wpOp_step rfl (fun K' hK => ?_)
                    replace hK := Lib.hid hK
                    go_wp2
                    exact hK.out _ _ ⟨_, (by simp only [Act.put, List.getElem?_cons_zero, List.getElem?_cons_succ, Option.getD_some, List.setIfInBounds_toArray, List.set_cons_zero, List.set_cons_succ]), AppI.not_ 9 (by decide) hS hJ, .inl (Below.refl _ _), ⟨fun h => absurd h (by decide), fun u hu => Option.some.inj (Option.some.inj hu)⟩⟩
                  · have hS : done 12 = false := by
                      cases h : done 12 with
                      | false => rfl
                      | true => exact absurd (done_of_reach hcl 9 12 10 (by kernel_rfl) h) (by rw [hni]; exact Bool.false_ne_true)
                    have hJ := hI.1 hS
                    have d1 : t 1 = .slice none 0 0 := (hd 1 (by kernel_rfl)).2 _ rfl
                    rw [d1]
                    have d9 : t 9 = .slice xA xh.length xc := (hd 9 (by kernel_rfl)).2 _ rfl
                    rw [d9]
                    refine wpOp_step rfl (fun K' hK => ?_)
                    replace hK := Lib.hid hK
                    split
                    · refine wp_append (.tmp 57) (.tmp 65) 39 rfl w.heap.size rhopT (.slice none 0 0) 0 [] rfl (World.ownsRow_nil _ _ _ _) B (.slice xA xh.length xc) xh.length (xh.flatMap hopCells) rfl (hslW.out w1' hJ) hops_oneCell (by simp only [maxLen]; omega) (by omega) (by have := hJ.size; omega) ?_
                      intro v6 w6 ho6 hg6 hb6
                      simp only [Nat.zero_add, List.nil_append] at ho6
                      have hB6 := below_of_grown hg6 (Nat.le_refl _) (fun g hg => by cases hg)
                      obtain ⟨-, A9, c9, rfl, -⟩ := id (Sl.of_own ho6)
                      exact hK.out _ _ ⟨_, rfl, AppI.not_ 10 (by decide) hS (hJ.trans (hB6.mono hJ.size)), .inl hB6, ⟨fun _ => ⟨A9, c9, rfl, ho6⟩, fun u hu => by cases hu⟩⟩
                    · rename_i hno
                      exact absurd rfl hno
                  · have hS : done 12 = false := by
                      cases h : done 12 with
                      | false => rfl
                      | true => exact absurd (done_of_reach hcl 9 12 11 (by kernel_rfl) h) (by rw [hni]; exact Bool.false_ne_true)
                    have hJ := hI.1 hS
                    refine wpOp_step rfl (fun K' hK => ?_)
                    replace hK := Lib.hid hK
                    go_wp2
                    exact hK.out _ _ ⟨_, (by simp only [Act.put, List.getElem?_cons_zero, List.getElem?_cons_succ, Option.getD_some, List.setIfInBounds_toArray, List.set_cons_zero, List.set_cons_succ]), AppI.not_ 11 (by decide) hS hJ, .inl (Below.refl _ _), ⟨fun h => absurd h (by decide), fun u hu => Option.some.inj (Option.some.inj hu)⟩⟩
                  · have hJ := hI.1 hni
                    obtain ⟨A9, c9, d9, ho9⟩ := (hd 10 (by kernel_rfl)).1 rfl
                    rw [d9]
                    have d11 : t 11 = .pointer (some ⟨b2, 9, none⟩) := (hd 11 (by kernel_rfl)).2 _ rfl
                    rw [d11]
                    refine wpOp_step rfl (fun K' hK => ?_)
                    replace hK := Lib.hid hK
                    have KW := K4.below hJ K4.lt
                    have hc9 := KW.cell 9
                    simp only [List.getElem?_toArray, List.getElem?_cons_zero, List.getElem?_cons_succ] at hc9
                    have hf9 := KW.free 9
                    have hg9 := grown_setCell (grown_refl w1' (some b2)) (p := ⟨b2, 9, none⟩) (.inl rfl) (.slice A9 xh.length c9)
                    have hb9 : Blk (w1'.setCell ⟨b2, 9, none⟩ (.slice A9 xh.length c9)) b2 41 (wayC ⟨x0, x1, x2, x3, x4, x5, x6, x7, x8⟩ (.slice A9 xh.length c9)) := KW.set_ 9 _
                    have ho10 := own_same ho9 fun k' hk' => hg9.block k' (ho9.lt k' hk').2 fun e => own_ne ho9 KW (by decide) k' hk' (by simpa using e)
                    replace ho10 := Lib.hid ho10
                    replace hb9 := Lib.hid hb9
                    replace hg9 := Lib.hid hg9
                    replace KW := Lib.hid KW
                    clear ho9
                    go_wp2
                    exact hK.out _ _ ⟨undef, rfl, ⟨fun h => absurd h (by simp [andD]), fun _ => ⟨A9, c9, hb9.out, ho10.out, w1', hJ, hg9.out⟩⟩, .inr ⟨hg9.out, _, KW.out⟩, ⟨fun h => absurd h (by decide), fun u hu => by cases hu⟩⟩
                · intro done t w6 a' hI hall ha hv
                  simp only [putFrom, Act.put, Nat.reduceAdd, List.setIfInBounds_toArray, List.set_cons_zero, List.set_cons_succ] at ha
                  subst ha
                  obtain ⟨A9, c9, hb6, ho6, w7, hJ, hg6⟩ := hI.2 (hall 12 (by decide))
                  clear hv hI hall
                  have hI7 := hI4.out.call hJ
                  have K7 := K4.below hJ K4.lt
                  have hI8 := Lib.hid (hI7.grown hg6 fun b e => (by simp only [Option.some.injEq] at e; subst e; exact ⟨hz2, hb2o, _, _, K7, by decide⟩))
                  go_wp2_with fail
                  go_meet
                  case rel => exact ⟨A9, c9, hb6, ho6, hI8.out⟩
            case rest =>
              obtain ⟨A9, c9, K5, ho5, hI5⟩ := hcut
              obtain ⟨w5, rfl⟩ : ∃ x : World, x = wc := ⟨_, rfl⟩
              clear hI4 K4 hslW hside hrow hsl
              have CC := Lib.hid (rbest_any w xs _ ⟨x0, x1, x2, x3, x4, x5, x6, x7, x8⟩ A9 c9 xh w5 hI5 ho5 hxs.2 hol.out hhk)
              clear hI5 ho5
              go_wp2_with (first
                | (refine wpList_load_row rfl 41 (.tmp 7) rfl b2 rfl 41 #[.int .u32 x0, .int .u8 x1, .int .u32 x2, .int .u8 x3, .int .u8 x4, .int .u32 x5, .int .u32 x6, .int .u32 x7, .int .u32 x8, .slice A9 xh.length c9] (0, 0) _ K5 Tryz.underlying41 rfl (by kernel_rfl) ?_)
                | (go_at_call 85; refine Calls.mono CC.out ?_; rintro e w6 ⟨v6, xs6, rfl, hg6, hI6⟩))
              go_roundg (la.length + lb.length - (k + 1))
              case measure => omega
              case rel => exact ⟨k + 1, xs6, by omega, rfl, by go_num, hgx1.out _ hg6, hI6⟩
    · obtain rfl : k = la.length + lb.length := by omega
      have hen : ((RA ++ RB).take (la.length + lb.length)).filter elig = RA.filter elig ++ RB.filter elig := by
        rw [List.take_of_length_le (by rw [List.length_append]; have := hlA.out; have := hlB.out; omega), List.filter_append]
      rw [hen] at hgx
      have ikn : ¬ ((la.length + lb.length : Nat) : Int) < (la.length : Int) + (lb.length : Int) := by omega
      go_wp2_with fail
      go_ret
      exact ⟨_, xs, rfl, hgx, hI⟩
end Go.Proofs.YtiikagabdiphkaaGreat
