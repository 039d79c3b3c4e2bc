/- outer's pick of the way to a boundary router. Conditions: the ways lie in memory. -/
import Derived.Test.YtiikagabdiphkaaGreatOutA
import Derived.Test.YtiikagabdiphkaaGreatLib5
namespace Go.Lo
open Go.RowKit

/-- a way: its numbers, and the slice of its hops -/
structure WayV where
  n : WayN
  A : Option Addr
  len : Nat
  cap : Nat
  deriving Inhabited
abbrev WayV.cells (x : WayV) : Array Value := wayC x.n (.slice x.A x.len x.cap)
def wayL (x : WayV) : List Value := [.int .u32 x.n.addr, .int .u8 x.n.bits, .int .u32 x.n.router, .int .u8 x.n.flags, .int .u8 x.n.kind, .int .u32 x.n.area, .int .u32 x.n.cost, .int .u32 x.n.far, .int .u32 x.n.tag, .slice x.A x.len x.cap]
theorem wayL_len (x : WayV) : (wayL x).length = 10 := rfl
def zeroN : WayN := ⟨0, 0, 0, 0, 0, 0, 0, 0, 0⟩
def zeroW : WayV := ⟨zeroN, none, 0, 0⟩
def insideP (x : WayN) : Bool := x.kind == 1 && x.area != 0
def countsR (id : Int) (x : WayN) : Bool := x.router == id && bits BinOp.and IntKind.u8 x.flags 2 != 0
def nearer (a b : WayN) : Bool := if insideP a != insideP b then insideP a else decide (a.cost < b.cost) || (a.cost == b.cost && decide (b.area < a.area))
def pickStep (id : Int) (s : WayV × Bool) (x : WayV) : WayV × Bool := if countsR id x.n && (!s.2 || nearer x.n s.1.n) then (x, true) else s
def pickP (id : Int) (l : List WayV) : WayV × Bool := l.foldl (pickStep id) (zeroW, false)
end Go.Lo
namespace Go.Proofs.YtiikagabdiphkaaGreat
open Go.RowKit Go.Lo

theorem wayT : ElT Tryz.prog 30 38 10 56 := ⟨by kernel_rfl, by
  obtain ⟨i, hi, h1, h2, h3⟩ := info_parts (show (Tryz.prog.info? 38).map (fun i => (i.zero, i.size, i.bytes)) = some (some (.agg #[.int .u32 0, .int .u8 0, .int .u32 0, .int .u8 0, .int .u8 0, .int .u32 0, .int .u32 0, .int .u32 0, .int .u32 0, .slice none 0 0]), 10, 56) by kernel_rfl)
  exact ⟨i, _, hi, h1, h2, h3, rfl⟩, by omega⟩

theorem inside_any (x : WayV) (w : World) : Calls Tryz.prog 157 #[.agg x.cells] w fun e w' => e = .returned (.bool (insideP x.n)) ∧ Below w.heap.size w w' := by
  obtain ⟨⟨x0, x1, x2, x3, x4, x5, x6, x7, x8⟩, xA, xn, xc⟩ := x
  dsimp only [WayV.cells, wayC, insideP]
  have hB : Below w.heap.size w (w.alloc (.cells #[.int .u32 x0, .int .u8 x1, .int .u32 x2, .int .u8 x3, .int .u8 x4, .int .u32 x5, .int .u32 x6, .int .u32 x7, .int .u32 x8, .slice xA xn xc] 38)) := (Below.refl _ _).alloc (Nat.le_refl _) _
  go_enter Tryz.func157, Tryz.ntmps157
  go_wp2
  all_goals go_ret
  all_goals refine ⟨?_, (Below.refl _ _).alloc (Nat.le_refl _) _⟩
  all_goals simp [*]

set_option maxRecDepth 100000 in
theorem counts_any (x : WayV) (id : Int) (p : Nat) (w : World) (hp : w.cell? ⟨p, 0, none⟩ = some (.int .u32 id)) (hl : p < w.heap.size) :
    Calls Tryz.prog 159 #[.agg x.cells, .pointer (some ⟨p, 0, none⟩)] w fun e w' => e = .returned (.bool (countsR id x.n)) ∧ Below w.heap.size w w' := by
  obtain ⟨⟨x0, x1, x2, x3, x4, x5, x6, x7, x8⟩, xA, xn, xc⟩ := x
  dsimp only [WayV.cells, wayC, countsR]
  have hB : Below w.heap.size w (w.alloc (.cells #[.int .u32 x0, .int .u8 x1, .int .u32 x2, .int .u8 x3, .int .u8 x4, .int .u32 x5, .int .u32 x6, .int .u32 x7, .int .u32 x8, .slice xA xn xc] 38)) := (Below.refl _ _).alloc (Nat.le_refl _) _
  have hp1 := (hB.cell (p := ⟨p, 0, none⟩) hl).trans hp
  go_enter Tryz.func159, Tryz.ntmps159
  go_wp2
  all_goals go_ret
  all_goals refine ⟨?_, (Below.refl _ _).alloc (Nat.le_refl _) _⟩
  all_goals simp [*]

set_option maxRecDepth 100000 in
set_option maxHeartbeats 2000000 in
theorem nearer_any (a b : WayV) (p : Nat) (w : World) (hp : w.cell? ⟨p, 0, none⟩ = some (.func (.func 157) #[] #[])) (hl : p < w.heap.size) :
    Calls Tryz.prog 160 #[.agg a.cells, .agg b.cells, .pointer (some ⟨p, 0, none⟩)] w fun e w' => e = .returned (.bool (nearer a.n b.n)) ∧ Below w.heap.size w w' := by
  have C1 := Lib.hid (fun W => inside_any a W)
  have C2 := Lib.hid (fun W => inside_any b W)
  obtain ⟨ia, hia⟩ : ∃ z, z = insideP a.n := ⟨_, rfl⟩
  obtain ⟨ib, hib⟩ : ∃ z, z = insideP b.n := ⟨_, rfl⟩
  have e : nearer a.n b.n = if ia != ib then ia else decide (a.n.cost < b.n.cost) || (a.n.cost == b.n.cost && decide (b.n.area < a.n.area)) := by rw [hia, hib]; rfl
  rw [e]
  rw [← hia] at C1
  rw [← hib] at C2
  clear e hia hib
  obtain ⟨⟨a0, a1, a2, a3, a4, a5, a6, a7, a8⟩, aA, an, ac⟩ := a
  obtain ⟨⟨b0, b1, b2, b3, b4, b5, b6, b7, b8⟩, bA, bn, bc⟩ := b
  dsimp only [WayV.cells, wayC] at *
  have k0 : Blk ((w.alloc (.cells #[.int .u32 a0, .int .u8 a1, .int .u32 a2, .int .u8 a3, .int .u8 a4, .int .u32 a5, .int .u32 a6, .int .u32 a7, .int .u32 a8, .slice aA an ac] 38)).alloc (.cells #[.int .u32 b0, .int .u8 b1, .int .u32 b2, .int .u8 b3, .int .u8 b4, .int .u32 b5, .int .u32 b6, .int .u32 b7, .int .u32 b8, .slice bA bn bc] 38)) w.heap.size 38 #[.int .u32 a0, .int .u8 a1, .int .u32 a2, .int .u8 a3, .int .u8 a4, .int .u32 a5, .int .u32 a6, .int .u32 a7, .int .u32 a8, .slice aA an ac] := (Blk.new _ _ _).alloc _
  have k1 : Blk ((w.alloc (.cells #[.int .u32 a0, .int .u8 a1, .int .u32 a2, .int .u8 a3, .int .u8 a4, .int .u32 a5, .int .u32 a6, .int .u32 a7, .int .u32 a8, .slice aA an ac] 38)).alloc (.cells #[.int .u32 b0, .int .u8 b1, .int .u32 b2, .int .u8 b3, .int .u8 b4, .int .u32 b5, .int .u32 b6, .int .u32 b7, .int .u32 b8, .slice bA bn bc] 38)) (w.heap.size + 1) 38 #[.int .u32 b0, .int .u8 b1, .int .u32 b2, .int .u8 b3, .int .u8 b4, .int .u32 b5, .int .u32 b6, .int .u32 b7, .int .u32 b8, .slice bA bn bc] := heap_alloc2_new w _ _
  have kB : Below w.heap.size w ((w.alloc (.cells #[.int .u32 a0, .int .u8 a1, .int .u32 a2, .int .u8 a3, .int .u8 a4, .int .u32 a5, .int .u32 a6, .int .u32 a7, .int .u32 a8, .slice aA an ac] 38)).alloc (.cells #[.int .u32 b0, .int .u8 b1, .int .u32 b2, .int .u8 b3, .int .u8 b4, .int .u32 b5, .int .u32 b6, .int .u32 b7, .int .u32 b8, .slice bA bn bc] 38)) := ((Below.refl _ _).alloc (Nat.le_refl _) _).alloc (by simp) _
  have hp1 := (kB.cell (p := ⟨p, 0, none⟩) hl).trans hp
  go_enter Tryz.func160, Tryz.ntmps160
  go_upto_region 1 with fail
  generalize ((w.alloc (.cells #[.int .u32 a0, .int .u8 a1, .int .u32 a2, .int .u8 a3, .int .u8 a4, .int .u32 a5, .int .u32 a6, .int .u32 a7, .int .u32 a8, .slice aA an ac] 38)).alloc (.cells #[.int .u32 b0, .int .u8 b1, .int .u32 b2, .int .u8 b3, .int .u8 b4, .int .u32 b5, .int .u32 b6, .int .u32 b7, .int .u32 b8, .slice bA bn bc] 38)) = w1 at k0 k1 kB hp1 ⊢
  have hz := k1.lt
  have c0 := k0.cell 0
  have d0 := k1.cell 0
  have c1 := k0.cell 1
  have d1 := k1.cell 1
  have c2 := k0.cell 2
  have d2 := k1.cell 2
  have c3 := k0.cell 3
  have d3 := k1.cell 3
  have c4 := k0.cell 4
  have d4 := k1.cell 4
  have c5 := k0.cell 5
  have d5 := k1.cell 5
  have c6 := k0.cell 6
  have d6 := k1.cell 6
  have c7 := k0.cell 7
  have d7 := k1.cell 7
  have c8 := k0.cell 8
  have d8 := k1.cell 8
  have c9 := k0.cell 9
  have d9 := k1.cell 9
  simp only [List.getElem?_toArray, List.getElem?_cons_zero, List.getElem?_cons_succ] at c0 d0 c1 d1 c2 d2 c3 d3 c4 d4 c5 d5 c6 d6 c7 d7 c8 d8 c9 d9
  have q0 : ∀ W, Below (w.heap.size + 1 + 1) w1 W → W.cell? ⟨w.heap.size, 0, none⟩ = some (.int .u32 a0) := fun W h => (h.cell (p := ⟨w.heap.size, 0, none⟩) (by show w.heap.size < w.heap.size + 1 + 1; omega)).trans c0
  have r0 : ∀ W, Below (w.heap.size + 1 + 1) w1 W → W.cell? ⟨w.heap.size + 1, 0, none⟩ = some (.int .u32 b0) := fun W h => (h.cell (p := ⟨w.heap.size + 1, 0, none⟩) (by show w.heap.size + 1 < w.heap.size + 1 + 1; omega)).trans d0
  have q1 : ∀ W, Below (w.heap.size + 1 + 1) w1 W → W.cell? ⟨w.heap.size, 1, none⟩ = some (.int .u8 a1) := fun W h => (h.cell (p := ⟨w.heap.size, 1, none⟩) (by show w.heap.size < w.heap.size + 1 + 1; omega)).trans c1
  have r1 : ∀ W, Below (w.heap.size + 1 + 1) w1 W → W.cell? ⟨w.heap.size + 1, 1, none⟩ = some (.int .u8 b1) := fun W h => (h.cell (p := ⟨w.heap.size + 1, 1, none⟩) (by show w.heap.size + 1 < w.heap.size + 1 + 1; omega)).trans d1
  have q2 : ∀ W, Below (w.heap.size + 1 + 1) w1 W → W.cell? ⟨w.heap.size, 2, none⟩ = some (.int .u32 a2) := fun W h => (h.cell (p := ⟨w.heap.size, 2, none⟩) (by show w.heap.size < w.heap.size + 1 + 1; omega)).trans c2
  have r2 : ∀ W, Below (w.heap.size + 1 + 1) w1 W → W.cell? ⟨w.heap.size + 1, 2, none⟩ = some (.int .u32 b2) := fun W h => (h.cell (p := ⟨w.heap.size + 1, 2, none⟩) (by show w.heap.size + 1 < w.heap.size + 1 + 1; omega)).trans d2
  have q3 : ∀ W, Below (w.heap.size + 1 + 1) w1 W → W.cell? ⟨w.heap.size, 3, none⟩ = some (.int .u8 a3) := fun W h => (h.cell (p := ⟨w.heap.size, 3, none⟩) (by show w.heap.size < w.heap.size + 1 + 1; omega)).trans c3
  have r3 : ∀ W, Below (w.heap.size + 1 + 1) w1 W → W.cell? ⟨w.heap.size + 1, 3, none⟩ = some (.int .u8 b3) := fun W h => (h.cell (p := ⟨w.heap.size + 1, 3, none⟩) (by show w.heap.size + 1 < w.heap.size + 1 + 1; omega)).trans d3
  have q4 : ∀ W, Below (w.heap.size + 1 + 1) w1 W → W.cell? ⟨w.heap.size, 4, none⟩ = some (.int .u8 a4) := fun W h => (h.cell (p := ⟨w.heap.size, 4, none⟩) (by show w.heap.size < w.heap.size + 1 + 1; omega)).trans c4
  have r4 : ∀ W, Below (w.heap.size + 1 + 1) w1 W → W.cell? ⟨w.heap.size + 1, 4, none⟩ = some (.int .u8 b4) := fun W h => (h.cell (p := ⟨w.heap.size + 1, 4, none⟩) (by show w.heap.size + 1 < w.heap.size + 1 + 1; omega)).trans d4
  have q5 : ∀ W, Below (w.heap.size + 1 + 1) w1 W → W.cell? ⟨w.heap.size, 5, none⟩ = some (.int .u32 a5) := fun W h => (h.cell (p := ⟨w.heap.size, 5, none⟩) (by show w.heap.size < w.heap.size + 1 + 1; omega)).trans c5
  have r5 : ∀ W, Below (w.heap.size + 1 + 1) w1 W → W.cell? ⟨w.heap.size + 1, 5, none⟩ = some (.int .u32 b5) := fun W h => (h.cell (p := ⟨w.heap.size + 1, 5, none⟩) (by show w.heap.size + 1 < w.heap.size + 1 + 1; omega)).trans d5
  have q6 : ∀ W, Below (w.heap.size + 1 + 1) w1 W → W.cell? ⟨w.heap.size, 6, none⟩ = some (.int .u32 a6) := fun W h => (h.cell (p := ⟨w.heap.size, 6, none⟩) (by show w.heap.size < w.heap.size + 1 + 1; omega)).trans c6
  have r6 : ∀ W, Below (w.heap.size + 1 + 1) w1 W → W.cell? ⟨w.heap.size + 1, 6, none⟩ = some (.int .u32 b6) := fun W h => (h.cell (p := ⟨w.heap.size + 1, 6, none⟩) (by show w.heap.size + 1 < w.heap.size + 1 + 1; omega)).trans d6
  have q7 : ∀ W, Below (w.heap.size + 1 + 1) w1 W → W.cell? ⟨w.heap.size, 7, none⟩ = some (.int .u32 a7) := fun W h => (h.cell (p := ⟨w.heap.size, 7, none⟩) (by show w.heap.size < w.heap.size + 1 + 1; omega)).trans c7
  have r7 : ∀ W, Below (w.heap.size + 1 + 1) w1 W → W.cell? ⟨w.heap.size + 1, 7, none⟩ = some (.int .u32 b7) := fun W h => (h.cell (p := ⟨w.heap.size + 1, 7, none⟩) (by show w.heap.size + 1 < w.heap.size + 1 + 1; omega)).trans d7
  have q8 : ∀ W, Below (w.heap.size + 1 + 1) w1 W → W.cell? ⟨w.heap.size, 8, none⟩ = some (.int .u32 a8) := fun W h => (h.cell (p := ⟨w.heap.size, 8, none⟩) (by show w.heap.size < w.heap.size + 1 + 1; omega)).trans c8
  have r8 : ∀ W, Below (w.heap.size + 1 + 1) w1 W → W.cell? ⟨w.heap.size + 1, 8, none⟩ = some (.int .u32 b8) := fun W h => (h.cell (p := ⟨w.heap.size + 1, 8, none⟩) (by show w.heap.size + 1 < w.heap.size + 1 + 1; omega)).trans d8
  have q9 : ∀ W, Below (w.heap.size + 1 + 1) w1 W → W.cell? ⟨w.heap.size, 9, none⟩ = some (.slice aA an ac) := fun W h => (h.cell (p := ⟨w.heap.size, 9, none⟩) (by show w.heap.size < w.heap.size + 1 + 1; omega)).trans c9
  have r9 : ∀ W, Below (w.heap.size + 1 + 1) w1 W → W.cell? ⟨w.heap.size + 1, 9, none⟩ = some (.slice bA bn bc) := fun W h => (h.cell (p := ⟨w.heap.size + 1, 9, none⟩) (by show w.heap.size + 1 < w.heap.size + 1 + 1; omega)).trans d9
  have qp : ∀ W, Below (w.heap.size + 1 + 1) w1 W → W.cell? ⟨p, 0, none⟩ = some (.func (.func 157) #[] #[]) := fun W h => (h.cell (p := ⟨p, 0, none⟩) (by show p < w.heap.size + 1 + 1; omega)).trans hp1
  have hle : w.heap.size + 1 + 1 ≤ w1.heap.size := by omega
  clear c0 d0 c1 d1 c2 d2 c3 d3 c4 d4 c5 d5 c6 d6 c7 d7 c8 d8 c9 d9 hp1 hp
  have QK := Lib.hid k0
  have QL := Lib.hid k1
  clear k0 k1
  go_region_held3 (fun W => Below (w.heap.size + 1 + 1) w1 W) (first | assumption | exact (Below.refl _ _).drew | exact Below.refl _ _ | fail)
    (first
      | (go_at_call 157; with_reducible refine Calls.mono (C1.out _) ?_; rintro e w2 ⟨rfl, hB2⟩; have hS2 := below_call (B := w.heap.size + 1 + 1) (a := w1) (by first | assumption | exact (Below.refl _ _).drew) hB2 hle; clear hB2)
      | (go_at_call 157; with_reducible refine Calls.mono (C2.out _) ?_; rintro e w3 ⟨rfl, hB3⟩; have hS3 := below_call (B := w.heap.size + 1 + 1) (a := w1) (by first | assumption | exact (Below.refl _ _).drew) hB3 hle; clear hB3)
      | fail)
  have K0 := QK.out.below hS3 (by omega)
  have K1 := QL.out.below hS3 (by omega)
  have hp3 := qp _ hS3
  have QB := Lib.hid (kB.trans (hS3.mono (by omega)))
  have hz3 := K1.lt
  clear q0 r0 q1 r1 q2 r2 q3 r3 q4 r4 q5 r5 q6 r6 q7 r7 q8 r8 q9 r9 qp hS2 hS3 QK QL kB
  have c5 := K0.cell 5
  have c6 := K0.cell 6
  have d5 := K1.cell 5
  have d6 := K1.cell 6
  simp only [List.getElem?_toArray, List.getElem?_cons_zero, List.getElem?_cons_succ] at c5 c6 d5 d6
  cases ia <;> cases ib
  · go_wp2
    all_goals go_ret
    all_goals refine ⟨?_, QB.out⟩
    all_goals simp [*]
  · go_wp2_with (first
      | (refine wpList_load_row rfl 38 (.tmp 3) rfl w.heap.size rfl 38 #[.int .u32 a0, .int .u8 a1, .int .u32 a2, .int .u8 a3, .int .u8 a4, .int .u32 a5, .int .u32 a6, .int .u32 a7, .int .u32 a8, .slice aA an ac] (0, 0) _ K0 Tryz.underlying38 rfl (by kernel_rfl) ?_)
      | (go_at_call 157; refine Calls.mono (C1.out _) ?_; rintro e w4 ⟨rfl, hB4⟩))
    go_ret
    exact ⟨by simp, QB.out.trans (hB4.mono QB.out.size)⟩
  · go_wp2_with (first
      | (refine wpList_load_row rfl 38 (.tmp 3) rfl w.heap.size rfl 38 #[.int .u32 a0, .int .u8 a1, .int .u32 a2, .int .u8 a3, .int .u8 a4, .int .u32 a5, .int .u32 a6, .int .u32 a7, .int .u32 a8, .slice aA an ac] (0, 0) _ K0 Tryz.underlying38 rfl (by kernel_rfl) ?_)
      | (go_at_call 157; refine Calls.mono (C1.out _) ?_; rintro e w4 ⟨rfl, hB4⟩))
    go_ret
    exact ⟨by simp, QB.out.trans (hB4.mono QB.out.size)⟩
  · go_wp2
    all_goals go_ret
    all_goals refine ⟨?_, QB.out⟩
    all_goals simp [*]
end Go.Proofs.YtiikagabdiphkaaGreat
