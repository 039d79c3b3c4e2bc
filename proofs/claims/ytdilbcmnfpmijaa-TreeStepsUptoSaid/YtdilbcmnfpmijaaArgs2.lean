/- Arguments of a law opened to cells: a slice of elements of whatever kind, by what one element reads as; how much they weigh; a graph. No condition. -/
import Derived.Test.YtdilbcmnfpmijaaRows
import Derived.Test.YtdilbcmnfpmijaaArgs
import Derived.Test.YtdilbcmnfpmijaaTreeK
namespace Go.Proofs.Ytdilbcmnfpmijaa
open Go.RowKit Go.Lo Go.ChangeShapes Go.WideShapes Go.Deep

section
variable {H : Type} {enc : TypeId × Value → H} {P : Program} {W : World} {spare : Nat → Bool} {held : Bool}

theorem slice_arg {t e : TypeId} {s : Nat} {α : Type} [Inhabited α] {f : α → List Value} (Q : α → DataW H → Prop) (hs : 0 < s) (hf : ∀ x, (f x).length = s) (hu : P.underlying t = some (.slice e)) (hC : P.cellsOf e = s)
    (elem : ∀ n cs' (y : DataW H × List MemPlace), DataW.trod enc P W 0 spare held n e cs' = some y → ∃ x : α, cs' = f x ∧ Q x y.1)
    {fuel : Nat} {v : Value} {x : DataW H × List MemPlace} (h : DataW.trod enc P W 0 spare held fuel t [v] = some x) :
    ∃ l : List α, Sl W W.heap.size s v l.length (l.flatMap f) ∧
      ((x.1 = .nil ∧ l = []) ∨ ∃ (D : Nat → DataW H) (rest : List (DataW H)), x.1 = .slice ((List.range l.length).map D) rest ∧ ∀ i (hi : i < l.length), Q l[i] (D i)) := by
  rcases open_slice hu h with ⟨hcs, rfl⟩ | ⟨a, len, cap, m, n, D, Pl, hcs, hb, hl, hm, hmm, rfl, hi⟩
  · simp only [List.cons.injEq, and_true] at hcs
    subst hcs
    exact ⟨[], Sl.nil _ _ _, .inl ⟨rfl, rfl⟩⟩
  · simp only [List.cons.injEq, and_true] at hcs
    subst hcs
    have hml : len ≤ m := by rw [hmm]; split <;> omega
    have key : ∀ i, i < len → ∃ q : α, (∀ j u, (f q)[j]? = some u → W.cell? (a.add (i * s + j)) = some u) ∧ Q q (D i) := by
      intro i hil
      obtain ⟨cs', hc, ht'⟩ := hi i (by omega)
      obtain ⟨q, rfl, hq⟩ := elem _ _ _ ht'
      rw [hC] at hc
      obtain ⟨_, hcl, hat⟩ := World.cells?_some hc
      refine ⟨q, fun j u hu => ?_, hq⟩
      have hj : j < s := by
        have := (List.getElem?_eq_some_iff.1 hu).1
        rw [hf] at this; exact this
      rw [← Go.Deep.add_add, hat j hj, hu]
    obtain ⟨q, hq⟩ := choose_lt key
    have hal : ((List.range len).map q).length = len := by simp
    refine ⟨(List.range len).map q, ?_, .inr ⟨D, _, by rw [hal], fun i hi' => ?_⟩⟩
    · refine ⟨flat_len hf _, some a, cap, by rw [hal], by omega, hm, fun hn => ?_⟩
      rw [hal] at hn
      have hx0 : (f (q 0))[0]? = some ((f (q 0))[0]'(by rw [hf]; exact hs)) := List.getElem?_eq_getElem _
      have h0 := (hq 0 hn).1 0 _ hx0
      have hz : a.add (0 * s + 0) = a := by unfold Addr.add; split <;> simp_all
      rw [hz] at h0
      obtain ⟨hsp, hlt⟩ := spot_of_cell h0
      refine ⟨a.block, a.off, by rw [← hsp], hlt, fun j u hu => ?_⟩
      have hj : j < len * s := by
        have := (List.getElem?_eq_some_iff.1 hu).1
        rw [flat_len hf, hal] at this; exact this
      have hjd : j / s < len := (Nat.div_lt_iff_lt_mul hs).2 hj
      have hk : j / s < ((List.range len).map q).length := by rw [hal]; exact hjd
      have hm' : j % s < s := Nat.mod_lt _ hs
      have hj3 : j / s * s + j % s = j := Nat.div_add_mod' j s
      rw [← hj3, flat_get hf _ _ _ hm' hk] at hu
      have := (hq (j / s) hjd).1 (j % s) u (by simpa using hu)
      rw [hsp, addr_add, hj3] at this
      exact this
    · have := (hq i (by rw [hal] at hi'; exact hi')).2
      simpa using this

theorem bulk_pos (d : DataW H) : 1 ≤ Rows.uptoBulk d := by
  cases d with
  | lit l => cases l <;> simp [Rows.uptoBulk]
  | _ => simp [Rows.uptoBulk]
theorem bulk_sum {α : Type} (g : α → Nat) (l : List α) (L : List (DataW H)) (hl : l.length = L.length) (h : ∀ i (h1 : i < l.length) (h2 : i < L.length), g l[i] ≤ Rows.uptoBulk L[i]) : (l.map g).sum ≤ Rows.uptoBulkAll L := by
  induction l generalizing L with
  | nil => simp
  | cons a l ih =>
    cases L with
    | nil => simp at hl
    | cons d L =>
      have h0 := h 0 (by simp) (by simp)
      have := ih L (by simpa using hl) (fun i h1 h2 => by have := h (i + 1) (by simpa using h1) (by simpa using h2); simpa using this)
      simp only [List.getElem_cons_zero] at h0
      simp only [List.map_cons, List.sum_cons, Rows.uptoBulkAll]
      omega
theorem bulk_slice {α : Type} (g : α → Nat) (l : List α) (D : Nat → DataW H) (rest : List (DataW H)) (h : ∀ i (hi : i < l.length), g l[i] ≤ Rows.uptoBulk (D i)) : (l.map g).sum + 1 ≤ Rows.uptoBulk (.slice ((List.range l.length).map D) rest) := by
  have := bulk_sum g l ((List.range l.length).map D) (by simp) (fun i h1 h2 => by simpa using h i h1)
  simp only [Rows.uptoBulk]
  omega

theorem sum_ones {α : Type} (l : List α) : (l.map fun _ => (1 : Nat)).sum = l.length := by
  induction l with
  | nil => rfl
  | cons a l ih => rw [List.map_cons, List.sum_cons, ih, List.length_cons, Nat.add_comm]
theorem bulk_part {d : DataW H} {parts : List (DataW H)} (h : d ∈ parts) : Rows.uptoBulk d ≤ Rows.uptoBulkAll parts := by
  induction parts with
  | nil => cases h
  | cons a l ih =>
    simp only [Rows.uptoBulkAll]
    rcases List.mem_cons.1 h with rfl | h
    · omega
    · have := ih h; omega

theorem struct_cells {e : TypeId} {fs : Array Field} {n : Nat} {cs : List Value} {y : DataW H × List MemPlace} (he : P.underlying e = some (.struct fs)) (hone : oneCellFields P fs = true) (hC : P.cellsOf e = fs.size)
    (h : DataW.trod enc P W 0 spare held n e cs = some y) :
    cs.length = fs.size ∧ ∃ (ys : List (DataW H × List MemPlace)) (n' : Nat), y.1 = .agg (ys.map (·.1)) ∧ ∀ (j : Nat) (f : Field), fs[j]? = some f → ∃ v z, cs[j]? = some v ∧ ys[j]? = some z ∧ DataW.trod enc P W 0 spare held n' f.type [v] = some z := by
  obtain ⟨ys, n', _, rfl, hlen, hyl, hf⟩ := DataW.trod_struct he h
  rw [hC] at hlen
  refine ⟨hlen, ys, n', rfl, fun j f hj => ?_⟩
  obtain ⟨ho, hk⟩ := hone_of hone j f hj
  have hjl : j < fs.size := (Array.getElem?_eq_some_iff.1 hj).1
  have h1 := hf j f hj
  rw [ho, hk] at h1
  have hone' : (cs.drop j).take 1 = [cs[j]'(by omega)] := by
    rw [List.drop_eq_getElem_cons (by omega)]
    rfl
  rw [hone'] at h1
  have hys : ys[j]? = some (ys[j]'(by omega)) := List.getElem?_eq_getElem (by omega)
  exact ⟨_, _, List.getElem?_eq_getElem (by omega), hys, h1.trans hys⟩

theorem u32_range {n : Int} (h : (Lit.int .u32 n).wf = true) : 0 ≤ n ∧ n ≤ 4294967295 := by
  simpa [Lit.wf, IntKind.min, IntKind.max, IntKind.signed, IntKind.bits] using h
end

section
variable {H : Type} {enc : TypeId × Value → H} {W : World} {spare : Nat → Bool} {held : Bool}
def EdgeOk (e : GEdge) (_ : DataW H) : Prop := 0 ≤ e.cost ∧ e.cost ≤ 4294967295
instance : Inhabited GEdge := ⟨⟨0, 0, 0, false⟩⟩
instance : Inhabited NodeRow := ⟨⟨⟨false, 0, 0, 0, 0, []⟩, .slice none 0 0, .slice none 0 0⟩⟩

set_option maxRecDepth 100000 in
theorem edge_elem (n : Nat) (cs : List Value) (y : DataW H × List MemPlace) (h : DataW.trod enc Try.prog W 0 spare held n 52 cs = some y) : ∃ x : GEdge, cs = edgeCells x ∧ EdgeOk x y.1 := by
  obtain ⟨hlen, ys, n', _, hf⟩ := struct_cells Try.underlying52 (by kernel_rfl) (by kernel_rfl) h
  match cs, hlen with
  | [c0, c1, c2, c3], _ =>
    obtain ⟨v0, y0, e0, _, t0⟩ := hf 0 _ rfl
    obtain ⟨v1, y1, e1, _, t1⟩ := hf 1 _ rfl
    obtain ⟨v2, y2, e2, _, t2⟩ := hf 2 _ rfl
    obtain ⟨v3, y3, e3, _, t3⟩ := hf 3 _ rfl
    obtain ⟨n0, k0, _, _⟩ := DataW.trod_int Try.underlying3 t0
    obtain ⟨n1, k1, _, w1⟩ := DataW.trod_int Try.underlying22 t1
    obtain ⟨n2, k2, _, _⟩ := DataW.trod_int Try.underlying22 t2
    obtain ⟨b3, k3, _⟩ := DataW.trod_bool Try.underlying4 t3
    simp only [List.cons.injEq, and_true] at k0 k1 k2 k3
    subst k0 k1 k2 k3
    simp only [List.getElem?_cons_zero, List.getElem?_cons_succ, Option.some.injEq] at e0 e1 e2 e3
    subst e0 e1 e2 e3
    exact ⟨⟨n0, n1, n2, b3⟩, rfl, u32_range w1⟩

def NodeOk (W : World) (r : NodeRow) (d : DataW H) : Prop :=
  Sl W W.heap.size 4 r.ev r.node.edges.length (r.node.edges.flatMap edgeCells) ∧ (∃ A n c, r.sv = .slice A n c) ∧ (∀ e ∈ r.node.edges, 0 ≤ e.cost ∧ e.cost ≤ 4294967295) ∧ r.node.edges.length + 1 ≤ Rows.uptoBulk d

set_option maxRecDepth 100000 in
theorem node_elem (n : Nat) (cs : List Value) (y : DataW H × List MemPlace) (h : DataW.trod enc Try.prog W 0 spare held n 50 cs = some y) : ∃ x : NodeRow, cs = nodeCells x ∧ NodeOk W x y.1 := by
  obtain ⟨ys, n', _, rfl, hlen, hyl, hf⟩ := DataW.trod_struct Try.underlying50 h
  have hlen' : cs.length = 7 := hlen.trans (by kernel_rfl)
  have hyl' : ys.length = 6 := hyl
  match cs, hlen', ys, hyl' with
  | [c0, c1, c2, c3, c4, c5, c6], _, [y0, y1, y2, y3, y4, y5], _ =>
    have t0 : DataW.trod enc Try.prog W 0 spare held n' 4 [c0] = some y0 := by
      have h := hf 0 _ rfl
      change DataW.trod enc Try.prog W 0 spare held n' 4 (([c0, c1, c2, c3, c4, c5, c6].drop 0).take (Try.prog.cellsOf 4)) = some y0 at h
      rw [show Try.prog.cellsOf 4 = 1 by kernel_rfl] at h
      exact h
    have t1 : DataW.trod enc Try.prog W 0 spare held n' 22 [c1] = some y1 := by
      have h := hf 1 _ rfl
      change DataW.trod enc Try.prog W 0 spare held n' 22 (([c0, c1, c2, c3, c4, c5, c6].drop 1).take (Try.prog.cellsOf 22)) = some y1 at h
      rw [show Try.prog.cellsOf 22 = 1 by kernel_rfl] at h
      exact h
    have t2 : DataW.trod enc Try.prog W 0 spare held n' 46 [c2, c3] = some y2 := by
      have h := hf 2 _ rfl
      change DataW.trod enc Try.prog W 0 spare held n' 46 (([c0, c1, c2, c3, c4, c5, c6].drop 2).take (Try.prog.cellsOf 46)) = some y2 at h
      rw [show Try.prog.cellsOf 46 = 2 by kernel_rfl] at h
      exact h
    have t3 : DataW.trod enc Try.prog W 0 spare held n' 5 [c4] = some y3 := by
      have h := hf 3 _ rfl
      change DataW.trod enc Try.prog W 0 spare held n' 5 (([c0, c1, c2, c3, c4, c5, c6].drop 4).take (Try.prog.cellsOf 5)) = some y3 at h
      rw [show Try.prog.cellsOf 5 = 1 by kernel_rfl] at h
      exact h
    have t4 : DataW.trod enc Try.prog W 0 spare held n' 47 [c5] = some y4 := by
      have h := hf 4 _ rfl
      change DataW.trod enc Try.prog W 0 spare held n' 47 (([c0, c1, c2, c3, c4, c5, c6].drop 5).take (Try.prog.cellsOf 47)) = some y4 at h
      rw [show Try.prog.cellsOf 47 = 1 by kernel_rfl] at h
      exact h
    have t5 : DataW.trod enc Try.prog W 0 spare held n' 48 [c6] = some y5 := by
      have h := hf 5 _ rfl
      change DataW.trod enc Try.prog W 0 spare held n' 48 (([c0, c1, c2, c3, c4, c5, c6].drop 6).take (Try.prog.cellsOf 48)) = some y5 at h
      rw [show Try.prog.cellsOf 48 = 1 by kernel_rfl] at h
      exact h
    obtain ⟨b0, k0, _⟩ := DataW.trod_bool Try.underlying4 t0
    obtain ⟨n1, k1, _, _⟩ := DataW.trod_int Try.underlying22 t1
    obtain ⟨_, zs, n'', _, hz⟩ := struct_cells Try.underlying46 (by kernel_rfl) (by kernel_rfl) t2
    obtain ⟨v2, z2, e2, _, s2⟩ := hz 0 _ rfl
    obtain ⟨v3, z3, e3, _, s3⟩ := hz 1 _ rfl
    obtain ⟨n2, k2, _, _⟩ := DataW.trod_int Try.underlying22 s2
    obtain ⟨n3, k3, _, _⟩ := DataW.trod_int Try.underlying5 s3
    obtain ⟨n4, k4, _, _⟩ := DataW.trod_int Try.underlying5 t3
    simp only [List.cons.injEq, and_true] at k0 k1 k2 k3 k4
    simp only [List.getElem?_cons_zero, List.getElem?_cons_succ, Option.some.injEq] at e2 e3
    subst k0 k1 k2 k3 k4 e2 e3
    obtain ⟨es, hes, hed⟩ := slice_arg (f := edgeCells) (s := 4) EdgeOk (by omega) edgeCells_len Try.underlying47 (by kernel_rfl) edge_elem t4
    have hsv : ∃ A n c, c6 = .slice A n c := by
      rcases DataW.trod_slice Try.underlying48 t5 with ⟨h, _⟩ | ⟨a, len, cap, _, _, _, _, h, _⟩
      · simp only [List.cons.injEq, and_true] at h
        exact ⟨_, _, _, h⟩
      · simp only [List.cons.injEq, and_true] at h
        exact ⟨_, _, _, h⟩
    refine ⟨⟨⟨b0, n1, n2, n3, n4, es⟩, c5, c6⟩, rfl, hes, hsv, ?_, ?_⟩
    · rcases hed with ⟨_, rfl⟩ | ⟨D, rest, _, hq⟩
      · intro e he; cases he
      · intro e he
        obtain ⟨i, hi, rfl⟩ := List.mem_iff_getElem.1 he
        exact hq i hi
    · have h1 : es.length ≤ Rows.uptoBulk y4.1 := by
        rcases hed with ⟨_, rfl⟩ | ⟨D, rest, hd, hq⟩
        · simp
        · rw [hd]
          have h := bulk_slice (fun _ => 1) es D rest (fun i _ => bulk_pos _)
          rw [sum_ones] at h
          omega
      have h2 := bulk_part (d := y4.1) (parts := [y0, y1, y2, y3, y4, y5].map (·.1)) (by simp)
      show es.length + 1 ≤ _
      simp only [Rows.uptoBulk]
      omega

set_option maxRecDepth 100000 in
/-- A graph, as an argument. -/
theorem graph_arg {base : Nat} {v : Value} {d : DataW H} {p : List MemPlace} (hok : Value.okWide Try.prog W .any base 43 v) (h : DataW.Trod enc Try.prog W 0 spare held 43 v d p) :
    ∃ rows : List NodeRow, GraphAt W W.heap.size v rows ∧ okG (nodesOf rows) ∧ rows.length ≤ Rows.uptoBulk d ∧ edgesN rows ≤ Rows.uptoBulk d := by
  obtain ⟨A, len, cap, rfl⟩ := okWide_slice Try.underlying43 hok
  obtain ⟨fuel, hf⟩ := h
  obtain ⟨rows, hsl, hd⟩ := slice_arg (f := nodeCells) (s := 7) (NodeOk W) (by omega) nodeCells_len Try.underlying43 (by kernel_rfl) node_elem (v := .slice A len cap) hf
  have hall : ∀ r ∈ rows, ∃ d : DataW H, NodeOk W r d := by
    rcases hd with ⟨_, rfl⟩ | ⟨D, rest, _, hq⟩
    · intro r hr; cases hr
    · intro r hr
      obtain ⟨i, hi, rfl⟩ := List.mem_iff_getElem.1 hr
      exact ⟨_, hq i hi⟩
  refine ⟨rows, ⟨hsl, fun r hr => (hall r hr).elim fun _ h => h.1, fun r hr => (hall r hr).elim fun _ h => h.2.1⟩, fun n hn => ?_, ?_⟩
  · obtain ⟨r, hr, rfl⟩ := List.mem_map.1 hn
    exact (hall r hr).elim fun _ h => h.2.2.1
  · rcases hd with ⟨_, rfl⟩ | ⟨D, rest, hd, hq⟩
    · simp [edgesN]
    · have hd' : d = .slice ((List.range rows.length).map D) rest := hd
      rw [hd']
      have h1 := bulk_slice (fun _ => 1) rows D rest (fun i _ => bulk_pos _)
      have h2 := bulk_slice (fun r : NodeRow => r.node.edges.length) rows D rest (fun i hi => by have := (hq i hi).2.2.2; omega)
      rw [sum_ones] at h1
      unfold edgesN
      omega
end
end Go.Proofs.Ytdilbcmnfpmijaa
