/- The document's order of prefixes; the document's best, in plain words. -/
import Derived.Test.YtiikagabdiphkaaGreatBesP
import Derived.Test.YtiikagabdiphkaaGreatJoiR
namespace Go.Proofs.YtiikagabdiphkaaGreat
open Go.RowKit Go.Lo

/-- does a prefix stand ahead of another one? -/
def ltK2 (a b : K2) : Bool := decide (a.1 < b.1) || decide (a.1 = b.1) && decide (a.2 < b.2)

set_option maxRecDepth 100000 in
theorem pbefore_any (a0 a1 b0 b1 : Int) (w : World) :
    Calls Tryz.prog 124 #[.agg #[.int .u32 a0, .int .u8 a1], .agg #[.int .u32 b0, .int .u8 b1]] w
      fun e w' => e = .returned (.bool (ltK2 (a0, a1) (b0, b1))) ∧ Below w.heap.size w w' := by
  go_enter Tryz.func124, Tryz.ntmps124
  go_wp2
  all_goals go_ret
  all_goals refine ⟨?_, ((Below.refl _ _).alloc (Nat.le_refl _) _).alloc (by simp) _⟩
  all_goals simp [ltK2, *]

/-- how many stand ahead -/
def ahead (l : List WayG) (k : K2) : Nat := (l.takeWhile fun o => ltK2 (keyO o.1) k).length
/-- a way more, in order -/
def insP (l : List WayG) (w : WayG) : List WayG :=
  match l[ahead l (keyO w.1)]? with
  | some o => if keyO o.1 = keyO w.1 then (if betterP w.1 o.1 < 0 then l.set (ahead l (keyO w.1)) w else if betterP w.1 o.1 = 0 then l.set (ahead l (keyO w.1)) (o.1, puts (puts [] o.2) w.2) else l) else l.take (ahead l (keyO w.1)) ++ w :: l.drop (ahead l (keyO w.1))
  | none => l.take (ahead l (keyO w.1)) ++ w :: l.drop (ahead l (keyO w.1))
theorem ahead_of {l : List WayG} {k : K2} {n : Nat} (hn : n ≤ l.length) (hb : ∀ i (hi : i < l.length), i < n → ltK2 (keyO l[i].1) k = true) (he : ∀ hi : n < l.length, ltK2 (keyO l[n].1) k = false) : ahead l k = n := by
  induction l generalizing n with
  | nil => simp at hn; subst hn; rfl
  | cons x r ih =>
    cases n with
    | zero =>
      have := he (by simp)
      simp only [List.getElem_cons_zero] at this
      unfold ahead
      rw [List.takeWhile_cons, this]
      rfl
    | succ n =>
      have h0 := hb 0 (by simp) (by omega)
      simp only [List.getElem_cons_zero] at h0
      have h1 := ih (n := n) (by simpa using hn) (fun i hi hin => by
        have := hb (i + 1) (by simpa using hi) (by omega)
        simpa using this) (fun hi => by
        have := he (by simpa using hi)
        simpa using this)
      unfold ahead at h1 ⊢
      rw [List.takeWhile_cons, h0]
      simp only [if_true, List.length_cons]
      omega
theorem ahead_le (l : List WayG) (k : K2) : ahead l k ≤ l.length := (List.takeWhile_prefix (l := l) (fun o => ltK2 (keyO o.1) k)).length_le

/-- a row of the document's ways that grows, with the hops behind them -/
structure RImp (w0 : World) (xs : List WayY) (v : Value) (wr : World) : Prop where
  own : wr.ownsRow w0.heap.size 41 10 v xs.length (xs.flatMap yL)
  hops : ∀ x ∈ xs, wr.ownsRow w0.heap.size 46 3 (.slice x.1.A x.1.len x.1.cap) x.2.length (x.2.flatMap hopCells)
  below : Below w0.heap.size w0 wr
theorem RImp.grown {w0 wr w' : World} {xs : List WayY} {v : Value} {row : Option Nat} (h : RImp w0 xs v wr) (hg : wr.grownBy w' row) (hr : ∀ b, row = some b → w0.heap.size ≤ b ∧ v.ownBlock ≠ some b ∧ ∃ t cs, Blk wr b t cs ∧ t ≠ 46) : RImp w0 xs v w' := by
  refine ⟨own_same h.own fun k hk => hg.block k (h.own.lt k hk).2 fun e => (hr k e.symm).2.1 hk, fun x hx => own_same (h.hops x hx) fun k hk => hg.block k ((h.hops x hx).lt k hk).2 fun e => ?_, h.below.trans (below_of_grown hg h.below.size fun g hg => (hr g hg).1)⟩
  obtain ⟨-, -, t, cs, hb, hne⟩ := hr k e.symm
  exact own_ne (h.hops x hx) hb hne k hk rfl
theorem RImp.call {w0 wr w' : World} {xs : List WayY} {v : Value} (h : RImp w0 xs v wr) (hb : Below wr.heap.size wr w') : RImp w0 xs v w' := h.grown (grown_of_below hb none) fun _ e => by cases e
theorem RImp.alloc {w0 wr : World} {xs : List WayY} {v : Value} (h : RImp w0 xs v wr) (o : Obj) : RImp w0 xs v (wr.alloc o) := h.call ((Below.refl _ _).alloc (Nat.le_refl _) o)
theorem rwayT : ElT Tryz.prog 22 41 10 56 := ⟨by kernel_rfl, by
  obtain ⟨i, hi, h1, h2, h3⟩ := info_parts (show (Tryz.prog.info? 41).map (fun i => (i.zero, i.size, i.bytes)) = some (some (.agg #[.int .u32 0, .int .u8 0, .int .u32 0, .int .u8 0, .int .u8 0, .int .u32 0, .int .u32 0, .int .u32 0, .int .u32 0, .slice none 0 0]), 10, 56) by kernel_rfl)
  exact ⟨i, _, hi, h1, h2, h3, rfl⟩, by omega⟩
end Go.Proofs.YtiikagabdiphkaaGreat
