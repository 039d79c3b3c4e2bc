/- state.Decode of a summary's state: how it leaves, and a length that is wrong. Conditions: the head's numbers are of their kinds, the body lies in memory. -/
import Derived.Test.YtiikagabdiphkaaGreatOctO
namespace Go.Proofs.YtiikagabdiphkaaGreat
open Go.RowKit Go.Lo

theorem numB_range (l : List Int) : 0 ≤ numB l ∧ numB l < 4294967296 := by
  rcases List.eq_nil_or_concat l with rfl | ⟨l', x, rfl⟩
  · decide
  · rw [List.concat_eq_append, numB_snoc]
    have h1 := bits_lo_u32 BinOp.or (numB l' * 256 % 4294967296) x
    have h2 := bits_hi_u32 BinOp.or (numB l' * 256 % 4294967296) x
    omega

/-- how Decode leaves when it returns -/
theorem decode_idle (tmps : Array Value) (W : World) (g1 g2 : Nat) (m k e : Int) (R : Ending → World → Prop) (h2 : tmps.getD 2 undef = .pointer (some ⟨g1, 0, none⟩)) (h3 : tmps.getD 3 undef = .pointer (some ⟨g2, 0, none⟩))
    (b1 : Blk W g1 93 (sumC m k)) (b2 : Blk W g2 56 #[.int .i64 e]) (hR : R (.returned (.tuple #[.agg (sumC m k), .int .i64 e])) W) :
    Leaves Tryz.prog Tryz.f62 tmps R [{ target := .fn (.func 104) #[], args := #[.pointer (some ⟨g2, 0, none⟩)] }] .returning W := by
  have hc := b2.cell 0
  simp only [List.getElem?_toArray, List.getElem?_cons_zero] at hc
  have h2' : tmps[2]?.getD undef = .pointer (some ⟨g1, 0, none⟩) := by simpa using h2
  have h3' : tmps[3]?.getD undef = .pointer (some ⟨g2, 0, none⟩) := by simpa using h3
  have hl := run_loadVar_row (P := Tryz.prog) W g1 93 93 (sumC m k) (0, 0) _ b1 Tryz.underlying93 rfl (by kernel_rfl)
  refine leaves_cons (f := 104) (args := #[.pointer (some ⟨g2, 0, none⟩)]) (by simp) (by simp [go_sem]) ?_
  refine (caught_idle _ _).mono ?_
  rintro _ u' w'' ⟨rfl, rfl, rfl⟩
  refine ⟨_, ?_, hR⟩
  have hl2 : (loadVar 56 ⟨g2, 0, none⟩).run Tryz.prog w'' = .ok (.int .i64 e) w'' := by simp [go_sem, hc]
  simp [results, Tryz.f62, h2', h3', asAddr, hl, hl2]

/-- how Decode leaves when something was thrown -/
theorem decode_thrown (tmps : Array Value) (W : World) (g1 g2 : Nat) (m k e e0 : Int) (R : Ending → World → Prop) (h2 : tmps.getD 2 undef = .pointer (some ⟨g1, 0, none⟩)) (h3 : tmps.getD 3 undef = .pointer (some ⟨g2, 0, none⟩)) (hne : g1 ≠ g2)
    (b1 : Blk W g1 93 (sumC m k)) (b2 : Blk W g2 56 #[.int .i64 e0]) (hR : R (.returned (.tuple #[.agg (sumC m k), .int .i64 e])) (W.setCell ⟨g2, 0, none⟩ (.int .i64 e))) :
    Leaves Tryz.prog Tryz.f62 tmps R [{ target := .fn (.func 104) #[], args := #[.pointer (some ⟨g2, 0, none⟩)] }] (.panicking [{ v := .iface 56 (.int .i64 e), recovered := false }]) W := by
  have hc := b2.cell 0
  have hf := b2.free 0
  simp only [List.getElem?_toArray, List.getElem?_cons_zero] at hc
  have h2' : tmps[2]?.getD undef = .pointer (some ⟨g1, 0, none⟩) := by simpa using h2
  have h3' : tmps[3]?.getD undef = .pointer (some ⟨g2, 0, none⟩) := by simpa using h3
  have b1' : Blk (W.setCell ⟨g2, 0, none⟩ (.int .i64 e)) g1 93 (sumC m k) := b1.far hne _
  have b2' := (b2.set_ 0 (.int .i64 e)).cell 0
  simp only [List.setIfInBounds_toArray, List.set_cons_zero, List.getElem?_toArray, List.getElem?_cons_zero] at b2'
  have hl := run_loadVar_row (P := Tryz.prog) _ g1 93 93 (sumC m k) (0, 0) _ b1' Tryz.underlying93 rfl (by kernel_rfl)
  refine leaves_cons (f := 104) (args := #[.pointer (some ⟨g2, 0, none⟩)]) (by simp) (by simp [go_sem]) ?_
  refine (caught_thrown _ e0 e _ hc hf).mono ?_
  rintro _ u' w'' ⟨rfl, rfl, rfl⟩
  refine ⟨_, ?_, hR⟩
  have hl2 : (loadVar 56 ⟨g2, 0, none⟩).run Tryz.prog (W.setCell ⟨g2, 0, none⟩ (.int .i64 e)) = .ok (.int .i64 e) (W.setCell ⟨g2, 0, none⟩ (.int .i64 e)) := by simp [go_sem, b2']
  simp [results, Tryz.f62, h2', h3', asAddr, hl, hl2]

set_option maxRecDepth 100000 in
set_option maxHeartbeats 1000000 in
theorem decode_len (h : OHead) (B : Nat) (bv : Value) (body : List Int) (w : World) (hb : Sl w B 1 bv body.length (body.map u8c)) (hn : body.length ≤ 1099511627776) (hne : (h.len != 20 + (body.length : Int)) = true) (hl : 0 ≤ h.len ∧ h.len < 65536) :
    Calls Tryz.prog 62 #[stateVal h bv] w fun x w' => x = .returned (.tuple #[.agg (sumC 0 0), .int .i64 22]) ∧ Below w.heap.size w w' := by
  obtain ⟨-, A, c, rfl, -⟩ := hb
  have wl : wrap64 (20 + (body.length : Int)) = 20 + (body.length : Int) := by unfold wrap64; omega
  have hne2 : ¬ h.len = 20 + (body.length : Int) := by simpa using hne
  go_enter_defers Tryz.func62, Tryz.ntmps62
  go_wp2
  refine decode_idle _ _ (w.heap.size + 1) (w.heap.size + 1 + 1) 0 0 22 _ rfl rfl ?_ ?_ ?_
  · exact (Blk.new_ _ (by simp)).alloc _
  · exact Blk.new_ _ (by simp)
  · exact ⟨rfl, ((Below.refl _ _).alloc (Nat.le_refl _) _ |>.alloc (by simp) _).alloc (by simp; omega) _⟩
end Go.Proofs.YtiikagabdiphkaaGreat
