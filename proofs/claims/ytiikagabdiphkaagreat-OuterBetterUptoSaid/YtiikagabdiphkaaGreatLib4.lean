/- Words for memory that were first written beside layers 22 and 23: blocks that calls leave alone, a struct stored whole, a map of bools. No theorem of the program stands here. -/
import Derived.Test.YtiikagabdiphkaaGreatLib2
import Derived.Laws.ResultCell
import Derived.Laws.StructEq
import Derived.Carry
import Derived.Maps.OwnOps
import Derived.Maps.OwnSet
namespace Go.Lo
open Go.RowKit Go.Maps

theorem own_less {w : World} {base base' : Nat} {e : TypeId} {s n : Nat} {v : Value} {xs : List Value} (h : w.ownsRow base e s v n xs) (hb : base' ≤ base) : w.ownsRow base' e s v n xs :=
  ⟨h.1, h.2.imp id fun ⟨g, cap, cur, a, b, c⟩ => ⟨g, cap, cur, a, Nat.le_trans hb b, c⟩⟩

theorem own_far {w : World} {base : Nat} {e : TypeId} {s n : Nat} {v : Value} {xs : List Value} (h : w.ownsRow base e s v n xs) {p : Addr} (hp : p.block < base) (u : Value) : (w.setCell p u).ownsRow base e s v n xs := by
  refine ⟨h.1, ?_⟩
  rcases h.2 with h' | ⟨g, cap, cur, rfl, h1, h2, h3⟩
  · exact .inl h'
  · exact .inr ⟨g, cap, cur, rfl, h1, (Below.heap_setCell w p u g (by omega)).trans h2, h3⟩

theorem Blk.ok {w : World} {g : Nat} {t : TypeId} {cs : Array Value} (h : Blk w g t cs) (i : Nat) (hi : i < cs.size) : (∃ u, w.cell? ⟨g, i, none⟩ = some u) ∧ w.frozen? ⟨g, i, none⟩ = false :=
  ⟨⟨cs[i], (h.cell i).trans (Array.getElem?_eq_getElem hi)⟩, h.free i⟩

theorem results_cell_tmp_row {P : Program} {fn : Func} {p u : Tmp} {ty : TypeId} (h : fn.results = #[.cell p ty, .tmp u]) (tmps : Array Value) (w : World) (g : Nat) (t : TypeId) (cs : Array Value) (fr : Nat × Nat) (d : TypeDesc)
    (hp : tmps.getD p undef = .pointer (some ⟨g, 0, none⟩)) (hg : w.heap[g]? = some (.cells cs t fr))
    (hu : P.underlying ty = some d) (hd : (match d with | .struct _ | .array _ _ => true | _ => false) = true) (hi : (P.info? ty).map (·.size) = some cs.size) :
    (results fn tmps).run P w = .ok (.tuple #[.agg cs, tmps.getD u undef]) w := by
  rw [results_cell_tmp h, hp]
  simp [asAddr, run_loadVar_row w g t ty cs fr d hg hu hd hi, Result.andThen]

structure Put (w : World) (g : Nat) (t : TypeId) (W : World) : Prop where
  os : W.os = w.os
  tape : W.tape = w.tape
  output : W.output = w.output
  size : W.heap.size = w.heap.size
  pre : ∃ cs, Blk w g t cs
  other : ∀ k, k ≠ g → W.heap[k]? = w.heap[k]?

theorem Put.below {w W a : World} {g : Nat} {t : TypeId} {B : Nat} (p : Put w g t W) (h : Below B a w) (hg : B ≤ g) : Below B a W :=
  ⟨p.os.trans h.os, p.tape.trans h.tape, p.output.trans h.output, by rw [p.size]; exact h.size, fun k hk => (p.other k (by omega)).trans (h.block k hk)⟩

theorem own_put {w W : World} {g : Nat} {t : TypeId} (p : Put w g t W) {base : Nat} {e : TypeId} {s n : Nat} {v : Value} {xs : List Value} (h : w.ownsRow base e s v n xs) (hne : t ≠ e) : W.ownsRow base e s v n xs := by
  refine ⟨h.1, ?_⟩
  rcases h.2 with h' | ⟨b, cap, cur, rfl, h1, h2, h3⟩
  · exact .inl h'
  · refine .inr ⟨b, cap, cur, rfl, h1, (p.other b ?_).trans h2, h3⟩
    intro hbg
    obtain ⟨cs, hcs⟩ := p.pre
    subst hbg
    have h4 := hcs.symm.trans h2
    simp only [Option.some.injEq, Obj.cells.injEq] at h4
    exact hne h4.2.1

theorem below_call {B : Nat} {a W w2 : World} (h : Below B a W) (h2 : Below W.heap.size W w2) (hB : B ≤ a.heap.size) : Below B a w2 := h.trans (h2.mono (Nat.le_trans hB h.size))

theorem below_alloc {B : Nat} {a W : World} (h : Below B a W) (hB : B ≤ a.heap.size) (o : Obj) : Below B a (W.alloc o) := h.alloc (Nat.le_trans hB h.size) o

theorem Blk.new_ (w : World) {g : Nat} {t : TypeId} {cs : Array Value} (hg : g = w.heap.size) : Blk (w.alloc (.cells cs t)) g t cs := by subst hg; exact Blk.new w t cs

theorem Blk.drew_ {w : World} {g : Nat} {t : TypeId} {cs : Array Value} (h : Blk w g t cs) : Blk w.drew g t cs := h

theorem Blk.call {W w2 : World} {g : Nat} {t : TypeId} {cs : Array Value} (hB : Below W.heap.size W w2) (h : Blk W g t cs) : Blk w2 g t cs := h.below hB h.lt

theorem Blk.put {W w2 : World} {g g2 : Nat} {t t2 : TypeId} {cs : Array Value} (p : Put W g2 t2 w2) (hne : g ≠ g2) (h : Blk W g t cs) : Blk w2 g t cs := (p.other g hne).trans h

@[reducible] def cellPut (P : Program) (w : World) (A : Addr) (v : Value) : Result Unit :=
  Go.run_load.match_2 (fun _ => Result Unit) (w.cell? A)
    (fun _ => if w.frozen? A = true then .halt (.unsupported (.unsafePointer "a write to bytes that a string shares")) w else .ok () (w.setCell A v))
    (fun _ => Go.run_store.match_1 (fun _ => Result Unit) (World.farStore P w A v (Mode.plain == Mode.atomic)) (fun w' _ => .ok () w') (fun h => .halt h w))

theorem cellPut_ok {P : Program} {w : World} {g : Nat} {t : TypeId} {cs : Array Value} (h : Blk w g t cs) (i : Nat) (hi : i < cs.size) (v : Value) : cellPut P w ⟨g, i, none⟩ v = .ok () (w.setCell ⟨g, i, none⟩ v) := by
  obtain ⟨⟨u, hu⟩, hf⟩ := Blk.ok h i hi
  unfold cellPut
  rw [hu, hf]
  rfl

theorem Put.cell_ {w W : World} {g : Nat} {t : TypeId} (p : Put w g t W) (i : Nat) (v : Value) : Put w g t (W.setCell ⟨g, i, none⟩ v) :=
  ⟨p.os, p.tape, p.output, by simp [World.setCell, p.size], p.pre, fun k hk => (Below.heap_setCell W ⟨g, i, none⟩ v k hk).trans (p.other k hk)⟩

theorem Put.refl_ {w : World} {g : Nat} {t : TypeId} {cs : Array Value} (h : Blk w g t cs) : Put w g t w := ⟨rfl, rfl, rfl, rfl, ⟨cs, h⟩, fun _ _ => rfl⟩

theorem upon10 {P : Program} {o : Oper} {a : Act} {K : Act → World → Prop} {Q : Exit → Act → World → Prop} {w : World} {g : Nat} {t : TypeId} {x0 x1 x2 x3 x4 x5 x6 x7 x8 x9 : Value}
    (h : Blk w g t #[x0, x1, x2, x3, x4, x5, x6, x7, x8, x9]) (v0 v1 v2 v3 v4 v5 v6 v7 v8 v9 : Value)
    (hK : ∀ W, Blk W g t #[v0, v1, v2, v3, v4, v5, v6, v7, v8, v9] → Put w g t W → Oper.upon P o a K Q (Result.ok Next.skip W)) :
    Oper.upon P o a K Q (((cellPut P w ⟨g, 0, none⟩ v0).andThen fun _ w1 => (cellPut P w1 ⟨g, 1, none⟩ v1).andThen fun _ w2 => (cellPut P w2 ⟨g, 2, none⟩ v2).andThen fun _ w3 => (cellPut P w3 ⟨g, 3, none⟩ v3).andThen fun _ w4 =>
      (cellPut P w4 ⟨g, 4, none⟩ v4).andThen fun _ w5 => (cellPut P w5 ⟨g, 5, none⟩ v5).andThen fun _ w6 => (cellPut P w6 ⟨g, 6, none⟩ v6).andThen fun _ w7 => (cellPut P w7 ⟨g, 7, none⟩ v7).andThen fun _ w8 => (cellPut P w8 ⟨g, 8, none⟩ v8).andThen fun _ w9 =>
      cellPut P w9 ⟨g, 9, none⟩ v9).andThen fun _ w' => Result.ok Next.skip w') := by
  have k0 := h
  have k1 := k0.set_ 0 v0
  have k2 := k1.set_ 1 v1
  have k3 := k2.set_ 2 v2
  have k4 := k3.set_ 3 v3
  have k5 := k4.set_ 4 v4
  have k6 := k5.set_ 5 v5
  have k7 := k6.set_ 6 v6
  have k8 := k7.set_ 7 v7
  have k9 := k8.set_ 8 v8
  have k10 := k9.set_ 9 v9
  have p10 := (((((((((((Put.refl_ h).cell_ 0 v0).cell_ 1 v1).cell_ 2 v2).cell_ 3 v3).cell_ 4 v4).cell_ 5 v5).cell_ 6 v6).cell_ 7 v7).cell_ 8 v8).cell_ 9 v9)
  rw [cellPut_ok k0 0 (by simp)]
  simp only [Result.andThen_ok]
  rw [cellPut_ok k1 1 (by simp)]
  simp only [Result.andThen_ok]
  rw [cellPut_ok k2 2 (by simp)]
  simp only [Result.andThen_ok]
  rw [cellPut_ok k3 3 (by simp)]
  simp only [Result.andThen_ok]
  rw [cellPut_ok k4 4 (by simp)]
  simp only [Result.andThen_ok]
  rw [cellPut_ok k5 5 (by simp)]
  simp only [Result.andThen_ok]
  rw [cellPut_ok k6 6 (by simp)]
  simp only [Result.andThen_ok]
  rw [cellPut_ok k7 7 (by simp)]
  simp only [Result.andThen_ok]
  rw [cellPut_ok k8 8 (by simp)]
  simp only [Result.andThen_ok]
  rw [cellPut_ok k9 9 (by simp)]
  simp only [Result.andThen_ok]
  simp only [List.setIfInBounds_toArray, List.set_cons_zero, List.set_cons_succ] at k10
  exact hK _ k10 p10

theorem own_alloc {w : World} {base : Nat} {e : TypeId} {s n : Nat} {v : Value} {xs : List Value} (h : w.ownsRow base e s v n xs) (o : Obj) : (w.alloc o).ownsRow base e s v n xs := own_below h ((Below.refl _ _).alloc (Nat.le_refl _) o)

theorem own_grown {w w' : World} {b b2 s s2 n n2 : Nat} {e e2 : TypeId} {v v2 : Value} {xs xs2 : List Value} (ho : w.ownsRow b e s v n xs) (h2 : w.ownsRow b2 e2 s2 v2 n2 xs2) (hg : w.grownBy w' v.ownBlock) (hne : e ≠ e2) : w'.ownsRow b2 e2 s2 v2 n2 xs2 := by
  refine own_same h2 fun k hk => hg.block k (h2.lt k hk).2 fun hc => ?_
  rcases h2.2 with h' | ⟨g, cap, cur, rfl, _, hh, _⟩
  · rw [h'.1] at hk
    cases hk
  · obtain rfl : g = k := Option.some.inj hk
    rcases ho.2 with h'' | ⟨g', cap', cur', rfl, _, hh', _⟩
    · rw [h''.1] at hc
      cases hc
    · obtain rfl : g = g' := Option.some.inj hc
      have h4 := hh.symm.trans hh'
      simp only [Option.some.injEq, Obj.cells.injEq] at h4
      exact hne h4.2.1.symm

theorem upon12 {P : Program} {o : Oper} {a : Act} {K : Act → World → Prop} {Q : Exit → Act → World → Prop} {w : World} {g : Nat} {t : TypeId} {x0 x1 x2 x3 x4 x5 x6 x7 x8 x9 x10 x11 : Value}
    (h : Blk w g t #[x0, x1, x2, x3, x4, x5, x6, x7, x8, x9, x10, x11]) (v0 v1 v2 v3 v4 v5 v6 v7 v8 v9 v10 v11 : Value)
    (hK : ∀ W, Blk W g t #[v0, v1, v2, v3, v4, v5, v6, v7, v8, v9, v10, v11] → Put w g t W → Oper.upon P o a K Q (Result.ok Next.skip W)) :
    Oper.upon P o a K Q (((cellPut P w ⟨g, 0, none⟩ v0).andThen fun _ w1 => (cellPut P w1 ⟨g, 1, none⟩ v1).andThen fun _ w2 => (cellPut P w2 ⟨g, 2, none⟩ v2).andThen fun _ w3 => (cellPut P w3 ⟨g, 3, none⟩ v3).andThen fun _ w4 => (cellPut P w4 ⟨g, 4, none⟩ v4).andThen fun _ w5 => (cellPut P w5 ⟨g, 5, none⟩ v5).andThen fun _ w6 => (cellPut P w6 ⟨g, 6, none⟩ v6).andThen fun _ w7 => (cellPut P w7 ⟨g, 7, none⟩ v7).andThen fun _ w8 => (cellPut P w8 ⟨g, 8, none⟩ v8).andThen fun _ w9 => (cellPut P w9 ⟨g, 9, none⟩ v9).andThen fun _ w10 => (cellPut P w10 ⟨g, 10, none⟩ v10).andThen fun _ w11 => cellPut P w11 ⟨g, 11, none⟩ v11).andThen fun _ w' => Result.ok Next.skip w') := by
  have k0 := h
  have k1 := k0.set_ 0 v0
  have k2 := k1.set_ 1 v1
  have k3 := k2.set_ 2 v2
  have k4 := k3.set_ 3 v3
  have k5 := k4.set_ 4 v4
  have k6 := k5.set_ 5 v5
  have k7 := k6.set_ 6 v6
  have k8 := k7.set_ 7 v7
  have k9 := k8.set_ 8 v8
  have k10 := k9.set_ 9 v9
  have k11 := k10.set_ 10 v10
  have k12 := k11.set_ 11 v11
  have p12 := ((((((((((((Put.refl_ h).cell_ 0 v0).cell_ 1 v1).cell_ 2 v2).cell_ 3 v3).cell_ 4 v4).cell_ 5 v5).cell_ 6 v6).cell_ 7 v7).cell_ 8 v8).cell_ 9 v9).cell_ 10 v10).cell_ 11 v11
  rw [cellPut_ok k0 0 (by simp)]
  simp only [Result.andThen_ok]
  rw [cellPut_ok k1 1 (by simp)]
  simp only [Result.andThen_ok]
  rw [cellPut_ok k2 2 (by simp)]
  simp only [Result.andThen_ok]
  rw [cellPut_ok k3 3 (by simp)]
  simp only [Result.andThen_ok]
  rw [cellPut_ok k4 4 (by simp)]
  simp only [Result.andThen_ok]
  rw [cellPut_ok k5 5 (by simp)]
  simp only [Result.andThen_ok]
  rw [cellPut_ok k6 6 (by simp)]
  simp only [Result.andThen_ok]
  rw [cellPut_ok k7 7 (by simp)]
  simp only [Result.andThen_ok]
  rw [cellPut_ok k8 8 (by simp)]
  simp only [Result.andThen_ok]
  rw [cellPut_ok k9 9 (by simp)]
  simp only [Result.andThen_ok]
  rw [cellPut_ok k10 10 (by simp)]
  simp only [Result.andThen_ok]
  rw [cellPut_ok k11 11 (by simp)]
  simp only [Result.andThen_ok]
  simp only [List.setIfInBounds_toArray, List.set_cons_zero, List.set_cons_succ] at k12
  exact hK _ k12 p12

theorem upon3 {P : Program} {o : Oper} {a : Act} {K : Act → World → Prop} {Q : Exit → Act → World → Prop} {w : World} {g : Nat} {t : TypeId} {x0 x1 x2 : Value}
    (h : Blk w g t #[x0, x1, x2]) (v0 v1 v2 : Value)
    (hK : ∀ W, Blk W g t #[v0, v1, v2] → Put w g t W → Oper.upon P o a K Q (Result.ok Next.skip W)) :
    Oper.upon P o a K Q (((cellPut P w ⟨g, 0, none⟩ v0).andThen fun _ w1 => (cellPut P w1 ⟨g, 1, none⟩ v1).andThen fun _ w2 => cellPut P w2 ⟨g, 2, none⟩ v2).andThen fun _ w' => Result.ok Next.skip w') := by
  have k0 := h
  have k1 := k0.set_ 0 v0
  have k2 := k1.set_ 1 v1
  have k3 := k2.set_ 2 v2
  have p3 := (((Put.refl_ h).cell_ 0 v0).cell_ 1 v1).cell_ 2 v2
  rw [cellPut_ok k0 0 (by simp)]
  simp only [Result.andThen_ok]
  rw [cellPut_ok k1 1 (by simp)]
  simp only [Result.andThen_ok]
  rw [cellPut_ok k2 2 (by simp)]
  simp only [Result.andThen_ok]
  simp only [List.setIfInBounds_toArray, List.set_cons_zero, List.set_cons_succ] at k3
  exact hK _ k3 p3

theorem bool_inv {H : Type} {P : Program} {e : TypeId} (he : P.underlying e = some .bool) {v : Value} {z : DataW H × List MemPlace} (h : plainElem P e v = some z) : ∃ x, v = .bool x ∧ z = (.lit (.bool x), []) := by
  unfold plainElem at h
  rw [he] at h
  cases v <;> simp_all

theorem lookup_bool {w : World} {b n : Nat} {k e t : TypeId} {P : Program} {D : DataW Unit} (h : w.ownsMap P k (plainElem P e) b n D) (K : Keyed P k) (ht : P.underlying t = some (.map k e)) (he : P.underlying e = some .bool)
    (hz : (zeroValue e).run P w = .ok (.bool false) w) {key : Value} {kl : Lit} (hkey : keyOf P k key = some kl) {c : Bool} (hD : D.atKey kl (.lit (.bool false)) = .lit (.bool c)) :
    (Instr.lookup t (.map (some b)) key false).run P w = .ok (.bool c) w := by
  obtain ⟨v, ps, hrun, hv⟩ := h.lookup K ht hz (plainElem_bool he false) hkey
  obtain ⟨x, rfl, hc⟩ := bool_inv he hv
  simp only [Prod.mk.injEq] at hc
  have h1 := hc.1
  rw [hD] at h1
  simp only [DataW.lit.injEq, Lit.bool.injEq] at h1
  rw [hrun, h1]

end Go.Lo
