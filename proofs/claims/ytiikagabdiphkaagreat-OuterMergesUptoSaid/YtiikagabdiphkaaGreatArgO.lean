/- Layer 20's arguments and merged ways, as plain lists. No walk stands here. -/
import Derived.Test.YtiikagabdiphkaaGreatBesP
import Derived.Test.YtiikagabdiphkaaGreatWysO
import Derived.Test.YtiikagabdiphkaaGreatBigO
import Derived.Test.YtiikagabdiphkaaGreatMv
import Derived.Test.YtiikagabdiphkaaGreatRegV
namespace Go.Proofs.YtiikagabdiphkaaGreat
open Go.RowKit Go.Lo

/-- what is known of an argument's ways -/
def ArgW (R : List WayG) : Prop := ∀ r ∈ R, ((0 ≤ r.1.cost ∧ r.1.cost < 4294967296) ∧ (0 ≤ r.1.bits ∧ r.1.bits < 256) ∧ r.2.length ≤ 2000000) ∧ 0 ≤ r.1.addr ∧ r.1.addr < 4294967296
theorem WaysIn.moreO {w : World} {B B' : Nat} {lv : Value} {R : List WayG} {l : List WayV} (h : WaysIn w B lv R l) (hB : B ≤ B') : WaysIn w B' lv R l := ⟨h.sl.more hB, h.map, fun k h1 h2 => (h.hops k h1 h2).more hB⟩
theorem WaysIn.bigo {w : World} {B : Nat} {lv : Value} {R : List WayG} {l : List WayV} (h : WaysIn w B lv R l) (hR : ArgW R) : ∀ x ∈ l, (0 ≤ x.n.bits ∧ x.n.bits < 256) ∧ ∃ hops : List Hop, hops.length ≤ 2000000 ∧ Sl w B 3 (.slice x.A x.len x.cap) hops.length (hops.flatMap hopCells) := fun x hx => by
  obtain ⟨k, hk, rfl⟩ := List.mem_iff_getElem.1 hx
  have hk2 : k < R.length := by rw [← h.len]; exact hk
  have h1 := (hR _ (List.getElem_mem hk2)).1
  rw [h.n k hk hk2]
  exact ⟨h1.2.1, R[k].2, h1.2.2, h.hops k hk hk2⟩
theorem WaysIn.le4 {w : World} {B : Nat} {lv : Value} {R : List WayG} {l : List WayV} (hq : WaysIn w B lv R l) (h4 : ∀ x ∈ l, x.len ≤ 400) : ∀ r ∈ R, r.2.length ≤ 400 := fun r hr => by
  obtain ⟨j, hj, rfl⟩ := List.mem_iff_getElem.1 hr
  have hj2 : j < l.length := by rw [hq.len]; exact hj
  have h3 := h4 _ (List.getElem_mem hj2)
  rw [sl_len (hq.hops j hj2 hj)] at h3
  exact h3
theorem hopsN_le {l : List WayG} {m : Nat} (h : ∀ g ∈ l, g.2.length ≤ m) : hopsN l ≤ m * l.length := by
  unfold hopsN
  induction l with
  | nil => simp
  | cons x r ih =>
    have h1 := ih fun g hg => h g (List.mem_cons_of_mem _ hg)
    have h2 := h x List.mem_cons_self
    simp only [List.map_cons, List.sum_cons, List.length_cons, Nat.mul_add, Nat.mul_one]
    omega
theorem neq_preO (a b : Int) (w : World) : (binOp .neq 35 (.agg #[.int .u32 a, .int .u8 b]) (.agg #[.int .u32 a, .int .u8 b])).run Tryz.prog w = .ok (.bool false) w := by
  rw [run_neq_struct, run_equalIn_agg _ _ _ _ _ (by kernel_rfl) (by kernel_rfl)]
  go_simp
theorem eql_preO (a b c d : Int) (w : World) : (binOp .eql 35 (.agg #[.int .u32 a, .int .u8 b]) (.agg #[.int .u32 c, .int .u8 d])).run Tryz.prog w = .ok (.bool (decide (a = c) && decide (b = d))) w := by
  rw [run_eql_struct, run_equalIn_agg _ _ _ _ _ (by kernel_rfl) (by kernel_rfl)]
  go_simp
  by_cases h1 : a = c <;> by_cases h2 : b = d <;> simp [h1, h2]

/-- does a row hold a prefix? -/
def seenK (l : List WayY) (k : K2) : Bool := l.any fun x => keyO x.1.n == k

/-- merged ways, as they stay -/
structure MerW (E : List WayG) (v : Value) (ms : List WayY) (W : World) : Prop where
  own : ∃ base, W.ownsRow base 38 10 v ms.length (ms.flatMap yL)
  hops : ∀ x ∈ ms, HopsAt x W
  perm : (gOf ms).Perm (mergeP E)
  rises : RisesO (gOf ms)
theorem MerW.call {E : List WayG} {v : Value} {ms : List WayY} {W W' : World} (hB : Below W.heap.size W W') (h : MerW E v ms W) : MerW E v ms W' := by
  obtain ⟨base, h1⟩ := h.own
  exact ⟨⟨base, own_below h1 hB⟩, fun x hx => HopsAt.call (h.hops x hx) hB, h.perm, h.rises⟩
theorem MerW.of {E : List WayG} {w w' : World} {e : Ending} (h : ∃ w0, Below w.heap.size w w0 ∧ BestPost E w0 e w') : ∃ v ms, e = .returned v ∧ MerW E v ms w' ∧ Below w.heap.size w w' := by
  obtain ⟨w0, h0, v, ms, rfl, h1, h2, h3, h4, h5⟩ := h
  exact ⟨v, ms, rfl, ⟨⟨_, h1⟩, fun x hx => (h2 x hx).at_ h5.size, h3, rises_of h4⟩, h0.trans (h5.mono h0.size)⟩
theorem MerW.ways {E : List WayG} {v : Value} {ms : List WayY} {W : World} (h : MerW E v ms W) : WaysIn W W.heap.size v (gOf ms) (ms.map (·.1)) := by
  obtain ⟨base, h1⟩ := h.own
  refine ⟨?_, by simp [gOf], fun k hk hk2 => ?_⟩
  · have := Sl.of_own h1
    rw [List.length_map, List.flatMap_map]
    exact this
  · have hk3 : k < ms.length := by simpa using hk
    have := h.hops ms[k] (List.getElem_mem hk3)
    simp only [List.getElem_map, gOf]
    exact this
end Go.Proofs.YtiikagabdiphkaaGreat
