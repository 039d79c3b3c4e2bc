/- A view of the document's, as an argument opened to its cells. No condition. -/
import Derived.Test.YtdilbcmnfpmijaaArgsO
import Derived.Test.YtdilbcmnfpmijaaOriK
namespace Go.Proofs.Ytdilbcmnfpmijaa
open Go.RowKit Go.Lo Go.ChangeShapes Go.WideShapes Go.Deep

section
variable {H : Type} {enc : TypeId × Value → H} {W : World} {spare : Nat → Bool} {held : Bool}
instance : Inhabited OPort := ⟨⟨0, 0, 0, 0, 0, 0, 0, false, .slice none 0 0, [], 0⟩⟩

set_option maxRecDepth 100000 in
/-- A view, as an argument. -/
theorem view_arg {base : Nat} {v : Value} {d : DataW H} {p : List MemPlace} (hok : Value.okWide Try.prog W .any base 25 v) (h : DataW.Trod enc Try.prog W 0 spare held 25 v d p) :
    ∃ (o : OView) (pv : Value) (ps : List OPort), v = viewVal o pv ∧ PortsIn W W.heap.size pv ps ∧ (∀ q ∈ ps, ∃ d : DataW H, PortOk W q d) ∧ ps.length ≤ Rows.uptoBulk d ∧ fullN ps ≤ Rows.uptoBulk d := by
  obtain ⟨cs, rfl, _⟩ := okWide_struct Try.underlying25 hok
  obtain ⟨fuel, hf0⟩ := h
  have hf1 : DataW.trod enc Try.prog W 0 spare held fuel 25 cs.toList = some (d, p) := hf0
  obtain ⟨hlen, ys, n', hd, hf⟩ := struct_cells Try.underlying25 (by kernel_rfl) (by kernel_rfl) hf1
  have hcs : cs = cs.toList.toArray := by simp
  have hlen' : cs.toList.length = 7 := hlen
  clear hf0 hf1 hlen
  generalize cs.toList = l at hcs hlen' hf
  subst hcs
  match l, hlen' with
  | [c0, c1, c2, c3, c4, c5, c6], _ =>
    obtain ⟨v0, y0, e0, _, t0⟩ := hf 0 _ rfl
    obtain ⟨v1, y1, e1, _, t1⟩ := hf 1 _ rfl
    obtain ⟨v2, y2, e2, _, t2⟩ := hf 2 _ rfl
    obtain ⟨v3, y3, e3, _, t3⟩ := hf 3 _ rfl
    obtain ⟨v4, y4, e4, _, t4⟩ := hf 4 _ rfl
    obtain ⟨v5, y5, e5, _, t5⟩ := hf 5 _ rfl
    obtain ⟨v6, y6, e6, s6, t6⟩ := hf 6 _ rfl
    obtain ⟨n0, k0, _, _⟩ := DataW.trod_int Try.underlying22 t0
    obtain ⟨n1, k1, _⟩ := DataW.trod_bool Try.underlying4 t1
    obtain ⟨n2, k2, _⟩ := DataW.trod_bool Try.underlying4 t2
    obtain ⟨n3, k3, _⟩ := DataW.trod_bool Try.underlying4 t3
    obtain ⟨n4, k4, _⟩ := DataW.trod_bool Try.underlying4 t4
    obtain ⟨n5, k5, _⟩ := DataW.trod_bool Try.underlying4 t5
    simp only [List.cons.injEq, and_true] at k0 k1 k2 k3 k4 k5
    simp only [List.getElem?_cons_zero, List.getElem?_cons_succ, Option.some.injEq] at e0 e1 e2 e3 e4 e5 e6
    subst k0 k1 k2 k3 k4 k5 e0 e1 e2 e3 e4 e5 e6
    obtain ⟨ps, hps, hpd⟩ := slice_arg (f := portCells) (s := 10) (PortOk W) (by omega) portCells_len Try.underlying23 (by kernel_rfl) port_elem t6
    have hall : ∀ q ∈ ps, ∃ d : DataW H, PortOk W q d := by
      rcases hpd with ⟨_, rfl⟩ | ⟨D, rest, _, hq⟩
      · intro r hr; cases hr
      · intro r hr
        obtain ⟨i, hi, rfl⟩ := List.mem_iff_getElem.1 hr
        exact ⟨_, hq i hi⟩
    have hb6 : Rows.uptoBulk y6.1 ≤ Rows.uptoBulk d := by
      have h2 := bulk_part (d := y6.1) (parts := ys.map (·.1)) (List.mem_map.2 ⟨y6, List.mem_of_getElem? s6, rfl⟩)
      have hd' : d = .agg (ys.map (·.1)) := hd
      rw [hd']
      simp only [Rows.uptoBulk]
      omega
    refine ⟨⟨n0, n1, n2, n3, n4, n5⟩, c6, ps, rfl, ⟨hps, fun q hq => (hall q hq).elim fun _ h => h.1⟩, hall, ?_, ?_⟩
    · refine Nat.le_trans ?_ hb6
      rcases hpd with ⟨_, rfl⟩ | ⟨D, rest, hD, hq⟩
      · simp
      · rw [hD]
        have h1 := bulk_slice (fun _ => 1) ps D rest (fun i _ => bulk_pos _)
        rw [sum_ones] at h1
        omega
    · refine Nat.le_trans ?_ hb6
      rcases hpd with ⟨_, rfl⟩ | ⟨D, rest, hD, hq⟩
      · simp [fullN]
      · rw [hD]
        have h1 := bulk_slice (fun r : OPort => r.full.length) ps D rest (fun i hi => by have := (hq i hi).2.2.2.2.2.2.2.2.2; omega)
        unfold fullN
        omega
end
end Go.Proofs.Ytdilbcmnfpmijaa
