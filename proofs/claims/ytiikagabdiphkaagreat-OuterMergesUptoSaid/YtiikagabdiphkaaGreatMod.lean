/- Where summaries lead, one by one. -/
import Derived.Test.YtiikagabdiphkaaGreatMoc
import Derived.Test.YtiikagabdiphkaaGreatMnr
import Derived.RangeFuncBox
import Derived.Shelf.Abstract
import Derived.Shelf.RegionOpen
import Derived.OwnWalkIn
import Derived.TacticsInMore
import Derived.LoopNIn
import Derived.LoopIn
import Derived.Sort.CutIn
namespace Go.Proofs.YtiikagabdiphkaaGreat
open Go.RowKit Go.Lo
attribute [local go_sem] Oper.semAt_some

/-- a state as it lies in memory -/
structure StV where
  h : OHead
  A : Option Addr
  len : Nat
  cap : Nat
def stL (x : StV) : List Value := [.int .u16 x.h.age, .int .u8 x.h.opts, .int .u8 x.h.type, .int .u32 x.h.id, .int .u32 x.h.adv, .int .i32 x.h.seq, .int .u16 x.h.sum, .int .u16 x.h.len, .slice x.A x.len x.cap]
theorem stL_len (x : StV) : (stL x).length = 9 := rfl
/-- a state as numbers -/
abbrev StG := OHead × List Int
structure StatesIn (w : World) (B : Nat) (sv : Value) (S : List StG) (l : List StV) : Prop where
  sl : Sl w B 9 sv l.length (l.flatMap stL)
  map : l.map (·.h) = S.map (·.1)
  bodies : ∀ k (h : k < l.length) (h2 : k < S.length), Sl w B 1 (.slice l[k].A l[k].len l[k].cap) S[k].2.length (S[k].2.map u8c)
theorem StatesIn.below {w w' : World} {B : Nat} {sv : Value} {S : List StG} {l : List StV} (h : StatesIn w B sv S l) (hb : Below B w w') : StatesIn w' B sv S l := ⟨h.sl.below hb, h.map, fun k h1 h2 => (h.bodies k h1 h2).below hb⟩
theorem StatesIn.len {w : World} {B : Nat} {sv : Value} {S : List StG} {l : List StV} (h : StatesIn w B sv S l) : l.length = S.length := by
  have := congrArg List.length h.map
  simpa using this
/-- what the walk asks of each state -/
def StOk (x : StG) : Prop := HeadOk x.1 ∧ x.2.length ≤ 1099511627776 ∧ ∀ b ∈ x.2, 0 ≤ b ∧ b < 256
/-- what the walk asks of the ways -/
def WysOk (R : List WayG) : Prop := (∀ r ∈ R, 0 ≤ r.1.cost ∧ r.1.cost < 4294967296) ∧ (∀ r ∈ R, r.2.length ≤ 1000000) ∧ R.length ≤ 1000000

/-- where the states lead -/
def leadsP (S : List StG) (self : Int) (R : List WayG) : List WayG := S.filterMap fun s => leadP s.1 s.2 self R

/-- a way that is yielded: its cells, and the hops behind them -/
abbrev WayY := WayV × List Hop
def HopsAt (x : WayY) (W : World) : Prop := Sl W W.heap.size 3 (.slice x.1.A x.1.len x.1.cap) x.2.length (x.2.flatMap hopCells)
theorem hopsAt_own (B : Nat) : OwnFrom B HopsAt := fun s W W' row hs hg hr => by
  obtain ⟨h1, A, c, hv, h2, h3, h4⟩ := hs
  refine ⟨h1, A, c, hv, h2, h3, fun hn => ?_⟩
  obtain ⟨b, off, hA, hb, hc⟩ := h4 hn
  exact ⟨b, off, hA, Nat.lt_of_lt_of_le hb hg.size, fun j u hu => cell_kept (hc j u hu) hg fun r e => (hr r e).2⟩

theorem leads_any (sA : Option Addr) (sn sc : Nat) (self : Int) (lA : Option Addr) (ln lc : Nat) (w : World) :
    Calls Tryz.prog 52 #[.slice sA sn sc, .int .u32 self, .slice lA ln lc] w fun e w' => e = .returned (.func (.func 95) #[] #[.pointer (some ⟨w.heap.size, 0, none⟩), .pointer (some ⟨w.heap.size + 1, 0, none⟩), .pointer (some ⟨w.heap.size + 1 + 1, 0, none⟩)]) ∧ w' = ((w.alloc (.cells #[.slice sA sn sc] 23)).alloc (.cells #[.int .u32 self] 24)).alloc (.cells #[.slice lA ln lc] 30) := by
  go_enter Tryz.func52, Tryz.ntmps52
  go_wp2
  go_ret
  exact ⟨rfl, rfl⟩

/-- the function value of the iterator -/
abbrev leadsB (b : Nat) : Array Value := #[.pointer (some ⟨b, 0, none⟩), .pointer (some ⟨b + 1, 0, none⟩), .pointer (some ⟨b + 1 + 1, 0, none⟩)]
def gOf (ys : List WayY) : List WayG := ys.map fun x => (x.1.n, x.2)

set_option maxRecDepth 100000 in
set_option maxHeartbeats 4000000 in
theorem leads_seq (n : Nat) (hn1 : 1 ≤ n) (Q : WayG → Prop) (b n0 B : Nat) (sA : Option Addr) (sc : Nat) (S : List StG) (ls : List StV) (self : Int) (lv : Value) (R : List WayG) (lw : List WayV) (w : World) (hb : b + 1 + 1 < n0) (hn0 : n0 ≤ w.heap.size) (hBn : B ≤ n0)
    (c0 : w.cell? ⟨b, 0, none⟩ = some (.slice sA ls.length sc)) (c1 : w.cell? ⟨b + 1, 0, none⟩ = some (.int .u32 self)) (c2 : w.cell? ⟨b + 1 + 1, 0, none⟩ = some lv)
    (hS : StatesIn w B (.slice sA ls.length sc) S ls) (hSo : ∀ x ∈ S, StOk x) (hW : WaysIn w B lv R lw) (hR : WysOk R) (hln : ls.length ≤ 1000000) (hQ : ∀ s ∈ S, ∀ g, leadP s.1 s.2 self R = some g → Q g) :
    SeqPre Fence.wide n Tryz.prog 95 (leadsB b) (fun x : WayY => #[.agg x.1.cells]) (Below n0) (fun x W => HopsAt x W ∧ Q (x.1.n, x.2)) (fun ys => gOf ys = leadsP S self R) S.length w := by
  intro l J W hWb hJ hY h0
  have hlw : lw.length = R.length := hW.len
  have hls : ls.length = S.length := hS.len
  have d0 := (hWb.cell (p := ⟨b, 0, none⟩) (by show b < w.heap.size; omega)).trans c0
  have d1 := (hWb.cell (p := ⟨b + 1, 0, none⟩) (by show b + 1 < w.heap.size; omega)).trans c1
  have d2 := (hWb.cell (p := ⟨b + 1 + 1, 0, none⟩) (by show b + 1 + 1 < w.heap.size; omega)).trans c2
  have hz0 : n0 ≤ W.heap.size := Nat.le_trans hn0 hWb.size
  replace hWb := hWb.mono (show B ≤ w.heap.size by omega)
  have hS2 := Lib.hid (hS.below hWb)
  have hW2 := Lib.hid (hW.below hWb)
  clear hS hW c0 c1 c2
  refine callsIn_of_wp Tryz.func95 rfl trivial ?_ rfl
  simp only [Tryz.ntmps95, List.size_toArray, List.length_cons, List.length_nil, Nat.reduceAdd, Nat.reduceSub, Array.replicate_succ, Array.replicate_zero, List.push_toArray, List.append_toArray, List.nil_append, List.cons_append]
  gi_wp2
  gi_loopw [11] (fun i wr => ∃ (k : Nat) (pre : List WayY), k ≤ ls.length ∧ i = .int .i64 k ∧ pre.length ≤ k ∧ gOf pre = leadsP (S.take k) self R ∧ J pre wr ∧ Below n0 W wr) (fun i _ => ls.length - (intOf i).toNat)
  case atStart => exact ⟨0, [], Nat.zero_le _, rfl, Nat.le_refl _, rfl, h0, Below.refl _ _⟩
  case round =>
    obtain ⟨k, pre, hk, rfl, hpk, hg, hJp, hnx⟩ := hrel
    obtain ⟨w1, rfl⟩ : ∃ x : World, x = wr := ⟨_, rfl⟩
    by_cases hlt : k < ls.length
    · have hkS : k < S.length := by omega
      have hS3 := hS2.out.below (hnx.mono hBn)
      have hW3 := hW2.out.below (hnx.mono hBn)
      have hz1 := hnx.size
      obtain ⟨bl, off, hsA, hbB, hrow⟩ := Sl.row stL_len hS3.sl hlt
      subst hsA
      have hbody := hS3.bodies k hlt hkS
      have hok := hSo _ (List.getElem_mem hkS)
      have hQk := hQ _ (List.getElem_mem hkS)
      have hhd : ls[k].h = S[k].1 := by
        have := congrArg (fun z => z[k]?) hS3.map
        simpa [hlt, hkS] using this
      have htk : leadsP (S.take (k + 1)) self R = leadsP (S.take k) self R ++ (leadP S[k].1 S[k].2 self R).toList := by
        unfold leadsP
        rw [List.take_succ_eq_append_getElem hkS, List.filterMap_append]
        congr 1
      replace htk := Lib.hid htk
      have hls2 := Lib.hid hls
      replace hlw := Lib.hid hlw
      clear hls
      generalize S[k] = s at *
      obtain ⟨hh, body⟩ := s
      obtain ⟨x, hx⟩ : ∃ x, x = ls[k] := ⟨_, rfl⟩
      rw [← hx] at hrow hbody hhd
      clear hx
      obtain ⟨xh, xA, xl, xc⟩ := x
      simp only at hhd
      subst hhd
      obtain rfl : xl = body.length := sl_len hbody
      have CL := fun (W2 : World) (hWW : Below B w1 W2) (hzz : B ≤ W2.heap.size) => lead_any xh hok.1 B (.slice xA body.length xc) body self lv R lw W2 (hbody.below hWW) hok.2.1 hok.2.2 (hW3.below hWW) hzz hR.1 hR.2.1 (by rw [hlw.out]; exact hR.2.2)
      generalize leadP xh body self R = G at *
      replace hQk := Lib.hid hQk
      obtain ⟨h0, h1, h2, h3, h4, h5, h6, h7⟩ := xh
      dsimp only [stateVal] at CL
      have q0 : w1.cell? ⟨bl, off + k * 9, none⟩ = some (.int .u16 h0) := hrow 0 _ rfl
      have q1 : w1.cell? ⟨bl, off + k * 9 + 1, none⟩ = some (.int .u8 h1) := hrow 1 _ rfl
      have q2 : w1.cell? ⟨bl, off + k * 9 + 2, none⟩ = some (.int .u8 h2) := hrow 2 _ rfl
      have q3 : w1.cell? ⟨bl, off + k * 9 + 3, none⟩ = some (.int .u32 h3) := hrow 3 _ rfl
      have q4 : w1.cell? ⟨bl, off + k * 9 + 4, none⟩ = some (.int .u32 h4) := hrow 4 _ rfl
      have q5 : w1.cell? ⟨bl, off + k * 9 + 5, none⟩ = some (.int .i32 h5) := hrow 5 _ rfl
      have q6 : w1.cell? ⟨bl, off + k * 9 + 6, none⟩ = some (.int .u16 h6) := hrow 6 _ rfl
      have q7 : w1.cell? ⟨bl, off + k * 9 + 7, none⟩ = some (.int .u16 h7) := hrow 7 _ rfl
      have q8 : w1.cell? ⟨bl, off + k * 9 + 8, none⟩ = some (.slice xA body.length xc) := hrow 8 _ rfl
      have ik : (k : Int) < (ls.length : Int) := by omega
      have r1 := (hnx.cell (p := ⟨b + 1, 0, none⟩) (by show b + 1 < n0; omega)).trans d1
      have r2 := (hnx.cell (p := ⟨b + 1 + 1, 0, none⟩) (by show b + 1 + 1 < n0; omega)).trans d2
      replace hrow := Lib.hid hrow
      gi_upto_region 3 with fail
      have hA : Below w1.heap.size w1 (w1.alloc (.cells #[.int .u16 h0, .int .u8 h1, .int .u8 h2, .int .u32 h3, .int .u32 h4, .int .i32 h5, .int .u16 h6, .int .u16 h7, .slice xA body.length xc] 54)) := (Below.refl _ _).alloc (Nat.le_refl _) _
      have kx := Blk.new w1 54 #[.int .u16 h0, .int .u8 h1, .int .u8 h2, .int .u32 h3, .int .u32 h4, .int .i32 h5, .int .u16 h6, .int .u16 h7, .slice xA body.length xc]
      have r1b := (hA.cell (p := ⟨b + 1, 0, none⟩) (by show b + 1 < w1.heap.size; omega)).trans r1
      have r2b := (hA.cell (p := ⟨b + 1 + 1, 0, none⟩) (by show b + 1 + 1 < w1.heap.size; omega)).trans r2
      have C := CL _ (hA.mono (by omega)) (by have := hA.size; omega)
      clear q0 q1 q2 q3 q4 q5 q6 q7 q8 r1 r2
      generalize w1.alloc (.cells #[.int .u16 h0, .int .u8 h1, .int .u8 h2, .int .u32 h3, .int .u32 h4, .int .i32 h5, .int .u16 h6, .int .u16 h7, .slice xA body.length xc] 54) = w2 at *
      have y0 := kx.cell 0
      have y1 := kx.cell 1
      have y2 := kx.cell 2
      have y3 := kx.cell 3
      have y4 := kx.cell 4
      have y5 := kx.cell 5
      have y6 := kx.cell 6
      have y7 := kx.cell 7
      have y8 := kx.cell 8
      simp only [List.getElem?_toArray, List.getElem?_cons_zero, List.getElem?_cons_succ] at y0 y1 y2 y3 y4 y5 y6 y7 y8
      replace C := Lib.hid C
      have hz2 := hA.size
      gi_upto_region 4 with (refine ⟨trivial, ?_⟩; gi_at_call 96; refine (callsIn_wide.2 C.out).mono ?_; rintro e w3 ⟨nn, A9, ln9, c9, q, rfl, hB3, hq0, hq1⟩)
      have hBa : Below w1.heap.size w1 (w3.alloc (.cells (wayC nn (.slice A9 ln9 c9)) 38)) := below_alloc (hA.trans (hB3.mono hA.size)) (Nat.le_refl _) _
      have hJ4 : J pre (w3.alloc (.cells (wayC nn (.slice A9 ln9 c9)) 38)) := hJ _ _ _ none hJp (grown_of_below hBa none) fun r e => by cases e
      have kw := Blk.new w3 38 (wayC nn (.slice A9 ln9 c9))
      cases q with
      | false =>
        have hGn := hq0 rfl
        have hg2 : gOf pre = leadsP (S.take (k + 1)) self R := by rw [htk.out, hGn, hg]; simp
        replace hg2 := Lib.hid hg2
        replace hGn := Lib.hid hGn
        clear hq0 hq1 hg htk
        dsimp only [wayC] at *
        gi_wp2
        refine ⟨fun _ h => (by cases h), ?_⟩
        gi_wp2
        go_roundw
        case rel => exact ⟨k + 1, pre, by omega, by go_num, by omega, hg2.out, hJ4, hnx.trans (hBa.mono (by omega))⟩
        case measure => simp [intOf]; omega
      | true =>
        obtain ⟨hops, hGs, ho⟩ := hq1 rfl
        have ho4 : HopsAt (⟨nn, A9, ln9, c9⟩, hops) (w3.alloc (.cells (wayC nn (.slice A9 ln9 c9)) 38)) := Sl.of_own (own_alloc ho _)
        have hg2 : gOf (pre ++ [((⟨nn, A9, ln9, c9⟩, hops) : WayY)]) = leadsP (S.take (k + 1)) self R := by rw [htk.out, hGs, ← hg]; simp [gOf]
        obtain ⟨fn, tmps, assign, bd, hy, hRd⟩ := hY pre (⟨nn, A9, ln9, c9⟩, hops) _ hJ4 ⟨ho4, hQk.out _ hGs⟩ (by omega)
        replace hg2 := Lib.hid hg2
        replace hGs := Lib.hid hGs
        replace hRd := Lib.hid hRd
        replace ho4 := Lib.hid ho4
        replace ho := Lib.hid ho
        clear hq0 hq1 hg htk
        have y0 := kw.cell 0
        have y1 := kw.cell 1
        have y2 := kw.cell 2
        have y3 := kw.cell 3
        have y4 := kw.cell 4
        have y5 := kw.cell 5
        have y6 := kw.cell 6
        have y7 := kw.cell 7
        have y8 := kw.cell 8
        have y9 := kw.cell 9
        dsimp only [wayC, WayV.cells] at *
        simp only [List.getElem?_toArray, List.getElem?_cons_zero, List.getElem?_cons_succ] at y0 y1 y2 y3 y4 y5 y6 y7 y8 y9
        gi_wp2
        refine hRd.out.mono ?_
        rintro e w5 ⟨rfl, hJ5, hk5⟩
        gi_wp2
        go_roundw
        case rel => exact ⟨k + 1, _, by omega, by go_num, by simp; omega, hg2.out, hJ5, (hnx.trans (hBa.mono (by omega))).trans hk5⟩
        case measure => simp [intOf]; omega
    · obtain rfl : k = ls.length := by omega
      gi_wp2
      go_end0
      exact ⟨⟨_, rfl⟩, pre, by rw [hg, hls, List.take_length], hJp⟩
end Go.Proofs.YtiikagabdiphkaaGreat
