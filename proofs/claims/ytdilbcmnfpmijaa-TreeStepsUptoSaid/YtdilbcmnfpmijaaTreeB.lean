/- tree's queue, as container/heap calls it: what each method does, over any memory. -/
import Derived.Test.YtdilbcmnfpmijaaTreeA
namespace Go.Proofs.Ytdilbcmnfpmijaa
open Go.RowKit Go.Lo

/-- cost, node -/
abbrev Ent := Int × Int
def entCells (e : Ent) : List Value := [.int .u64 e.1, .int .i64 e.2]
theorem entCells_len (e : Ent) : (entCells e).length = 2 := rfl

set_option maxRecDepth 100000 in
set_option maxHeartbeats 400000 in
theorem swap_any (base : Nat) (v : Value) (l : List Ent) (i k : Nat) (w : World) (hi : i < l.length) (hk : k < l.length) (hown : w.ownsRow base 123 2 v l.length (l.flatMap entCells)) (_hn : l.length ≤ 1099511627776) :
    Calls Try.prog 127 #[v, .int .i64 i, .int .i64 k] w
      fun e w' => e = .returned (.tuple #[]) ∧ w'.ownsRow base 123 2 v l.length (((l.set i l[k]).set k l[i]).flatMap entCells) ∧ w.grownBy w' v.ownBlock := by
  have hri := own_row entCells_len hown hi
  obtain ⟨g, cap, rfl, hcap, hbg, hg, hfz, hrow⟩ := hri
  obtain ⟨g', cap', hv, _, _, _, _, hrow'⟩ := own_row entCells_len hown hk
  simp only [Value.slice.injEq, Option.some.injEq, Addr.mk.injEq, and_true, true_and] at hv
  obtain ⟨rfl, rfl⟩ := hv
  have hi0 := hrow 0 _ rfl
  have hi1 := hrow 1 _ rfl
  have hk0 := hrow' 0 _ rfl
  have hk1 := hrow' 1 _ rfl
  simp only [Nat.add_zero] at hi0 hk0
  clear hrow hrow'
  have hf1 := hfz (i * 2)
  have hf2 := hfz (i * 2 + 1)
  have hf3 := hfz (k * 2)
  have hf4 := hfz (k * 2 + 1)
  have hend : ∀ (n : Nat), ((((((w.setCell ⟨g, i * 2, none⟩ (.int .u64 l[k].1)).setCell ⟨g, i * 2 + 1, none⟩ (.int .i64 l[k].2)).setCell ⟨g, k * 2, none⟩ (.int .u64 l[i].1)).setCell ⟨g, k * 2 + 1, none⟩ (.int .i64 l[i].2)).drewN n).ownsRow base 123 2 (.slice (some ⟨g, 0, none⟩) l.length cap) l.length (((l.set i l[k]).set k l[i]).flatMap entCells)) ∧
      w.grownBy (((((w.setCell ⟨g, i * 2, none⟩ (.int .u64 l[k].1)).setCell ⟨g, i * 2 + 1, none⟩ (.int .i64 l[k].2)).setCell ⟨g, k * 2, none⟩ (.int .u64 l[i].1)).setCell ⟨g, k * 2 + 1, none⟩ (.int .i64 l[i].2)).drewN n) (some g) := fun n => by
    obtain ⟨o1, g1⟩ := hown.stored (i * 2) (.int .u64 l[k].1)
    obtain ⟨o2, g2⟩ := o1.stored (i * 2 + 1) (.int .i64 l[k].2)
    obtain ⟨o3, g3⟩ := o2.stored (k * 2) (.int .u64 l[i].1)
    obtain ⟨o4, g4⟩ := o3.stored (k * 2 + 1) (.int .i64 l[i].2)
    have e1 := flat_set2 (a := fun y : Ent => .int .u64 y.1) (b := fun y => .int .i64 y.2) l i l[k]
    have e2 := flat_set2 (a := fun y : Ent => .int .u64 y.1) (b := fun y => .int .i64 y.2) (l.set i l[k]) k l[i]
    have e3 := grown_trans (grown_trans (grown_trans g1 g2) g3) g4
    refine ⟨?_, ⟨e3.os, e3.tape, e3.output, e3.size, e3.block⟩⟩
    show World.ownsRow _ _ _ _ _ _ _
    have o4' : World.ownsRow _ base 123 2 (.slice (some ⟨g, 0, none⟩) l.length cap) l.length (((((l.flatMap fun y : Ent => [.int .u64 y.1, .int .i64 y.2]).set (i * 2) (.int .u64 l[k].1)).set (i * 2 + 1) (.int .i64 l[k].2)).set (k * 2) (.int .u64 l[i].1)).set (k * 2 + 1) (.int .i64 l[i].2)) := o4
    rw [e1, e2] at o4'
    exact o4'
  have Hend := Lib.hid hend
  clear hend
  by_cases hik : i = k
  · subst hik
    go_enter Try.func127, Try.ntmps127
    go_wp2
    go_region
    go_end0
    exact ⟨rfl, Hend.out 1⟩
  · go_enter Try.func127, Try.ntmps127
    go_wp2
    go_region
    go_end0
    exact ⟨rfl, Hend.out 1⟩

theorem len_any (A : Option Addr) (n c : Nat) (w : World) :
    Calls Try.prog 42 #[.slice A n c] w fun e w' => e = .returned (.int .i64 n) ∧ w = w' := by
  go_enter Try.func42, Try.ntmps42
  go_wp2
  go_ret
  exact ⟨rfl, rfl⟩

set_option maxHeartbeats 400000 in
theorem less_any (base : Nat) (v : Value) (l : List Ent) (i k : Nat) (w : World) (hi : i < l.length) (hk : k < l.length) (hown : w.ownsRow base 123 2 v l.length (l.flatMap entCells)) (_hn : l.length ≤ 1099511627776) :
    Calls Try.prog 124 #[v, .int .i64 i, .int .i64 k] w
      fun e w' => e = .returned (.bool (decide (l[i].1 < l[k].1))) ∧ ∃ n, w' = w.drewN n := by
  have hri := own_row entCells_len hown hi
  obtain ⟨g, cap, rfl, hcap, hbg, hg, hfz, hrow⟩ := hri
  obtain ⟨g', cap', hv, _, _, _, _, hrow'⟩ := own_row entCells_len hown hk
  simp only [Value.slice.injEq, Option.some.injEq, Addr.mk.injEq, and_true, true_and] at hv
  obtain ⟨rfl, rfl⟩ := hv
  have hi0 := hrow 0 _ rfl
  have hk0 := hrow' 0 _ rfl
  simp only [Nat.add_zero] at hi0 hk0
  clear hrow hrow'
  go_enter Try.func124, Try.ntmps124
  go_wp2
  go_quiet (fail)
  go_wp2
  go_ret
  exact ⟨rfl, _, rfl⟩

/-- A queue behind a pointer. -/
def QueueAt (w : World) (base q : Nat) (l : List Ent) : Prop :=
  base ≤ q ∧ ∃ v, w.heap[q]? = some (.cells #[v] 125 (0, 0)) ∧ v.ownBlock ≠ some q ∧ w.ownsRow base 123 2 v l.length (l.flatMap entCells)

/-- the blocks that a queue lies in -/
def QF (w : World) (q k : Nat) : Prop := k = q ∨ ∃ v, w.heap[q]? = some (.cells #[v] 125 (0, 0)) ∧ v.ownBlock = some k
/-- a step that turns no block but the queue's own, and new ones -/
structure QStep (w w' : World) (q : Nat) : Prop where
  os : w'.os = w.os
  tape : w'.tape = w.tape
  output : w'.output = w.output
  size : w.heap.size ≤ w'.heap.size
  block : ∀ k, k < w.heap.size → ¬ QF w q k → w'.heap[k]? = w.heap[k]?
  foot : ∀ k, QF w' q k → QF w q k ∨ w.heap.size ≤ k
theorem QStep.refl (w : World) (q : Nat) : QStep w w q := ⟨rfl, rfl, rfl, Nat.le_refl _, fun _ _ _ => rfl, fun _ h => .inl h⟩
theorem QStep.trans {a b c : World} {q : Nat} (h : QStep a b q) (k : QStep b c q) : QStep a c q :=
  ⟨k.os.trans h.os, k.tape.trans h.tape, k.output.trans h.output, Nat.le_trans h.size k.size,
    fun i hi hn => (k.block i (Nat.lt_of_lt_of_le hi h.size) (fun hf => by
      rcases h.foot i hf with h' | h'
      · exact hn h'
      · omega)).trans (h.block i hi hn),
    fun i hf => by
      rcases k.foot i hf with h' | h'
      · exact h.foot i h'
      · exact .inr (Nat.le_trans h.size h')⟩
theorem QStep.drewN {a b : World} {q : Nat} (h : QStep a b q) (n : Nat) : QStep a (b.drewN n) q := ⟨h.os, h.tape, h.output, h.size, h.block, h.foot⟩
theorem QF.ge {w : World} {base q k : Nat} {l : List Ent} (hq : QueueAt w base q l) (h : QF w q k) : base ≤ k := by
  obtain ⟨hb, v, hcell, _, hown⟩ := hq
  rcases h with rfl | ⟨v', hc, hk⟩
  · exact hb
  · rw [hcell] at hc
    injection hc with hc; injection hc with hc
    have : v = v' := by simpa using hc
    subst this
    exact (hown.lt k hk).1
theorem QF.lt {w : World} {base q k : Nat} {l : List Ent} (hq : QueueAt w base q l) (h : QF w q k) : k < w.heap.size := by
  obtain ⟨hb, v, hcell, _, hown⟩ := hq
  rcases h with rfl | ⟨v', hc, hk⟩
  · exact lt_of_block hcell
  · rw [hcell] at hc
    injection hc with hc; injection hc with hc
    have : v = v' := by simpa using hc
    subst this
    exact (hown.lt k hk).2
theorem QStep.below {w w' : World} {base q : Nat} {l : List Ent} (h : QStep w w' q) (hq : QueueAt w base q l) : Below base w w' :=
  ⟨h.os, h.tape, h.output, h.size, fun k hk => by
    have : q < w.heap.size := by obtain ⟨_, v, hcell, _, _⟩ := hq; exact lt_of_block hcell
    have hb : base ≤ q := hq.1
    exact h.block k (by omega) (fun hf => by have := QF.ge hq hf; omega)⟩

set_option maxHeartbeats 400000 in
theorem qpop_any (base q : Nat) (l : List Ent) (x : Ent) (w : World) (hq : QueueAt w base q (l ++ [x])) (hn : l.length ≤ 1099511627776) :
    Calls Try.prog 125 #[.pointer (some ⟨q, 0, none⟩)] w
      fun e w' => e = .returned (.iface 123 (.agg #[.int .u64 x.1, .int .i64 x.2])) ∧ QueueAt w' base q l ∧ QStep w w' q := by
  obtain ⟨hb, v, hcell, hne, hown⟩ := hq
  have hbl : base ≤ w.heap.size := Nat.le_trans hb (Nat.le_of_lt (lt_of_block hcell))
  have hlen : (l ++ [x]).length = l.length + 1 := by simp
  obtain ⟨g, cap, rfl, hcap, hbg, hg, hfz, hrow⟩ := own_row (k := l.length) entCells_len hown (by simp)
  have hx0 := hrow 0 (.int .u64 x.1) (by simp [entCells])
  have hx1 := hrow 1 (.int .i64 x.2) (by simp [entCells])
  simp only [Nat.add_zero] at hx0 hx1
  clear hrow
  have hc0 := cell_of_one hcell
  have hf0 := free_of_one hcell
  rw [hlen] at hc0
  have hql := lt_of_block hcell
  have Hcell := Lib.hid hcell
  clear hcell
  go_enter Try.func125, Try.ntmps125
  go_wp2
  go_ret
  have hqg : g ≠ q := fun h => hne (by rw [h]; rfl)
  have h1 := own_take hown (m := l.length) (by simp)
  rw [flat_take entCells_len, List.take_left] at h1
  refine ⟨rfl, ⟨hb, .slice (some ⟨g, 0, none⟩) l.length cap, (Below.heap_alloc _ _ _ (by simpa using hql)).trans (one_setCell Hcell.out), fun h => hqg (by injection h), (ownsRow_setCell_other h1 (fun h => hqg (by injection h)) _).alloc _⟩,
    ⟨rfl, rfl, rfl, by simp, fun k hk hn => (Below.heap_alloc _ _ _ (by simpa using hk)).trans (Below.heap_setCell _ _ _ _ (fun e => hn (.inl e))), fun k hf => .inl ?_⟩⟩
  have hnew : ((w.setCell ⟨q, 0, none⟩ (.slice (some ⟨g, 0, none⟩) l.length cap)).alloc (Obj.cells #[.int .u64 x.1, .int .i64 x.2] 123)).heap[q]? = some (.cells #[.slice (some ⟨g, 0, none⟩) l.length cap] 125 (0, 0)) := (Below.heap_alloc _ _ _ (by simpa using hql)).trans (one_setCell Hcell.out)
  rcases hf with rfl | ⟨v', hc, hk⟩
  · exact .inl rfl
  · rw [hnew] at hc
    injection hc with hc; injection hc with hc
    have : Value.slice (some ⟨g, 0, none⟩) l.length cap = v' := by simpa using hc
    subst this
    exact .inr ⟨_, Hcell.out, hk⟩

theorem entT : ElT Try.prog 125 123 2 16 := ⟨by kernel_rfl, by
  obtain ⟨i, hi, h1, h2, h3⟩ := info_parts (show (Try.prog.info? 123).map (fun i => (i.zero, i.size, i.bytes)) = some (some (.agg #[.int .u64 0, .int .i64 0]), 2, 16) by kernel_rfl)
  exact ⟨i, _, hi, h1, h2, h3, rfl⟩, by omega⟩

theorem assert_entry (a b : Value) (w : World) : (Instr.typeAssert (.iface 123 (.agg #[a, b])) 20 123 false).run Try.prog w = .ok (.agg #[a, b]) w := by kernel_rfl

set_option maxHeartbeats 400000 in
theorem qadd_any (base q : Nat) (l : List Ent) (x : Ent) (w : World) (hbw : base ≤ w.heap.size) (hq : QueueAt w base q l) (hn : l.length ≤ 1099511627776) :
    Calls Try.prog 128 #[.pointer (some ⟨q, 0, none⟩), .iface 123 (.agg #[.int .u64 x.1, .int .i64 x.2])] w
      fun e w' => e = .returned (.tuple #[]) ∧ QueueAt w' base q (l ++ [x]) ∧ QStep w w' q := by
  obtain ⟨hb, v, hcell, hne, hown⟩ := hq
  have hql := lt_of_block hcell
  have hc0 := cell_of_one hcell
  have hf0 := free_of_one hcell
  have Hcell := Lib.hid hcell
  clear hcell
  have has := assert_entry (.int .u64 x.1) (.int .i64 x.2)
  go_enter Try.func128, Try.ntmps128
  go_wp2_with fail
  go_region_law (refine step_append (w := w.drew.alloc (.cells #[.int .u64 x.1, .int .i64 x.2] 123)) rfl (.tmp 7) (.tmp 10) 125 rfl base entT v l.length (l.flatMap entCells) rfl (hown.drew.alloc _) _ _ 1 (entCells x) rfl (Sl.lit w.drew #[.int .u64 x.1, .int .i64 x.2] 123 (by simp [maxLen]) rfl) (by simp [entCells, Value.oneCell']) (by simp only [maxLen]; omega) (by omega) (by simp; omega) ?_; intro v' w1 hown1 hgr1 hob1; obtain ⟨_, A1, c1, rfl, _⟩ := Sl.of_own hown1; have hc1 := (hgr1.cell_far ⟨q, 0, none⟩ (show q < _ by simp; omega) hne.symm).trans ((World.cell?_alloc_lt _ _ _ hql).trans hc0); have hf1 := (hgr1.frozen_far ⟨q, 0, none⟩ (show q < _ by simp; omega) hne.symm).trans ((Below.frozen ((Below.refl _ _).alloc (Nat.le_refl _) _) hql).trans hf0))
  all_goals go_end0
  all_goals
    have hxs : l.flatMap entCells ++ entCells x = (l ++ [x]).flatMap entCells := by simp
    have hq1 : w1.heap[q]? = some (.cells #[v] 125 (0, 0)) := (hgr1.block q (by simp; omega) hne.symm).trans ((Below.heap_alloc _ _ _ hql).trans Hcell.out)
    have hnq : (Value.slice A1 (l.length + 1) c1).ownBlock ≠ some q := by
      rcases hob1 with h | h
      · rw [h]; exact hne
      · rw [h]; simp; omega
    refine ⟨rfl, ⟨hb, _, one_setCell hq1, hnq, ?_⟩, ⟨hgr1.os, hgr1.tape, hgr1.output, Nat.le_trans (by simp) (Nat.le_trans hgr1.size (by simp)), fun k hk hn => ?_, fun k hf => ?_⟩⟩
    · rw [← hxs]
      simpa using ownsRow_setCell_other hown1 hnq _
    · exact (Below.heap_setCell _ _ _ _ (fun e => hn (.inl e))).trans ((hgr1.block k (by simp; omega) (fun e => hn (.inr ⟨v, Hcell.out, e.symm⟩))).trans (Below.heap_alloc _ _ _ hk))
    · rcases hf with rfl | ⟨v', hc, hk⟩
      · exact .inl (.inl rfl)
      · rw [one_setCell hq1] at hc
        injection hc with hc; injection hc with hc
        have : Value.slice A1 (l.length + 1) c1 = v' := by simpa using hc
        subst this
        rcases hob1 with h | h
        · exact .inl (.inr ⟨v, Hcell.out, by rw [← h]; exact hk⟩)
        · rw [hk] at h
          have : k = _ := Option.some.inj h
          exact .inr (by rw [this]; simp)

end Go.Proofs.Ytdilbcmnfpmijaa
