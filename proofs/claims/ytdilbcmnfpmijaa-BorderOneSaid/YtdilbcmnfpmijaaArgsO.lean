/- A port of the document's, as an argument opened to its cells. No condition. -/
import Derived.Test.YtdilbcmnfpmijaaArgsG
import Derived.Test.YtdilbcmnfpmijaaOriC
namespace Go.Proofs.Ytdilbcmnfpmijaa
open Go.RowKit Go.Lo Go.ChangeShapes Go.WideShapes Go.Deep

section
variable {H : Type} {enc : TypeId × Value → H} {W : World} {spare : Nat → Bool} {held : Bool}
theorem u8_range {n : Int} (h : (Lit.int .u8 n).wf = true) : 0 ≤ n ∧ n ≤ 255 := by
  simpa [Lit.wf, IntKind.min, IntKind.max, IntKind.signed, IntKind.bits] using h
theorem u16_range {n : Int} (h : (Lit.int .u16 n).wf = true) : 0 ≤ n ∧ n ≤ 65535 := by
  simpa [Lit.wf, IntKind.min, IntKind.max, IntKind.signed, IntKind.bits] using h

theorem u32_elem (n : Nat) (cs : List Value) (y : DataW H × List MemPlace) (h : DataW.trod enc Try.prog W 0 spare held n 22 cs = some y) : ∃ x : Int, cs = u32Cells x ∧ (0 ≤ x ∧ x ≤ 4294967295) := by
  obtain ⟨m, k, _, w⟩ := DataW.trod_int Try.underlying22 h
  exact ⟨m, k, u32_range w⟩

def PortOk (W : World) (p : OPort) (d : DataW H) : Prop :=
  Sl W W.heap.size 1 p.fv p.full.length (p.full.flatMap u32Cells) ∧ (0 ≤ p.kind ∧ p.kind ≤ 255) ∧ (0 ≤ p.state ∧ p.state ≤ 255) ∧ (0 ≤ p.addr ∧ p.addr ≤ 4294967295) ∧ (0 ≤ p.netA ∧ p.netA ≤ 4294967295) ∧ (0 ≤ p.netB ∧ p.netB ≤ 255) ∧ (0 ≤ p.cost ∧ p.cost ≤ 65535) ∧
    (0 ≤ p.dr ∧ p.dr ≤ 4294967295) ∧ (∀ x ∈ p.full, 0 ≤ x ∧ x ≤ 4294967295) ∧ p.full.length + 1 ≤ Rows.uptoBulk d

set_option maxRecDepth 100000 in
theorem port_elem (n : Nat) (cs : List Value) (y : DataW H × List MemPlace) (h : DataW.trod enc Try.prog W 0 spare held n 72 cs = some y) : ∃ p : OPort, cs = portCells p ∧ PortOk W p y.1 := by
  obtain ⟨ys, n', _, rfl, hlen, hyl, hf⟩ := DataW.trod_struct Try.underlying72 h
  have hlen' : cs.length = 10 := hlen.trans (by kernel_rfl)
  have hyl' : ys.length = 9 := hyl
  match cs, hlen', ys, hyl' with
  | [c0, c1, c2, c3, c4, c5, c6, c7, c8, c9], _, [y0, y1, y2, y3, y4, y5, y6, y7, y8], _ =>
    have t0 : DataW.trod enc Try.prog W 0 spare held n' 5 [c0] = some y0 := by
      have h := hf 0 _ rfl
      change DataW.trod enc Try.prog W 0 spare held n' 5 (([c0, c1, c2, c3, c4, c5, c6, c7, c8, c9].drop 0).take (Try.prog.cellsOf 5)) = some y0 at h
      rw [show Try.prog.cellsOf 5 = 1 by kernel_rfl] at h
      exact h
    have t1 : DataW.trod enc Try.prog W 0 spare held n' 5 [c1] = some y1 := by
      have h := hf 1 _ rfl
      change DataW.trod enc Try.prog W 0 spare held n' 5 (([c0, c1, c2, c3, c4, c5, c6, c7, c8, c9].drop 1).take (Try.prog.cellsOf 5)) = some y1 at h
      rw [show Try.prog.cellsOf 5 = 1 by kernel_rfl] at h
      exact h
    have t2 : DataW.trod enc Try.prog W 0 spare held n' 22 [c2] = some y2 := by
      have h := hf 2 _ rfl
      change DataW.trod enc Try.prog W 0 spare held n' 22 (([c0, c1, c2, c3, c4, c5, c6, c7, c8, c9].drop 2).take (Try.prog.cellsOf 22)) = some y2 at h
      rw [show Try.prog.cellsOf 22 = 1 by kernel_rfl] at h
      exact h
    have t3 : DataW.trod enc Try.prog W 0 spare held n' 46 [c3, c4] = some y3 := by
      have h := hf 3 _ rfl
      change DataW.trod enc Try.prog W 0 spare held n' 46 (([c0, c1, c2, c3, c4, c5, c6, c7, c8, c9].drop 3).take (Try.prog.cellsOf 46)) = some y3 at h
      rw [show Try.prog.cellsOf 46 = 2 by kernel_rfl] at h
      exact h
    have t4 : DataW.trod enc Try.prog W 0 spare held n' 40 [c5] = some y4 := by
      have h := hf 4 _ rfl
      change DataW.trod enc Try.prog W 0 spare held n' 40 (([c0, c1, c2, c3, c4, c5, c6, c7, c8, c9].drop 5).take (Try.prog.cellsOf 40)) = some y4 at h
      rw [show Try.prog.cellsOf 40 = 1 by kernel_rfl] at h
      exact h
    have t5 : DataW.trod enc Try.prog W 0 spare held n' 22 [c6] = some y5 := by
      have h := hf 5 _ rfl
      change DataW.trod enc Try.prog W 0 spare held n' 22 (([c0, c1, c2, c3, c4, c5, c6, c7, c8, c9].drop 6).take (Try.prog.cellsOf 22)) = some y5 at h
      rw [show Try.prog.cellsOf 22 = 1 by kernel_rfl] at h
      exact h
    have t6 : DataW.trod enc Try.prog W 0 spare held n' 4 [c7] = some y6 := by
      have h := hf 6 _ rfl
      change DataW.trod enc Try.prog W 0 spare held n' 4 (([c0, c1, c2, c3, c4, c5, c6, c7, c8, c9].drop 7).take (Try.prog.cellsOf 4)) = some y6 at h
      rw [show Try.prog.cellsOf 4 = 1 by kernel_rfl] at h
      exact h
    have t7 : DataW.trod enc Try.prog W 0 spare held n' 29 [c8] = some y7 := by
      have h := hf 7 _ rfl
      change DataW.trod enc Try.prog W 0 spare held n' 29 (([c0, c1, c2, c3, c4, c5, c6, c7, c8, c9].drop 8).take (Try.prog.cellsOf 29)) = some y7 at h
      rw [show Try.prog.cellsOf 29 = 1 by kernel_rfl] at h
      exact h
    have t8 : DataW.trod enc Try.prog W 0 spare held n' 22 [c9] = some y8 := by
      have h := hf 8 _ rfl
      change DataW.trod enc Try.prog W 0 spare held n' 22 (([c0, c1, c2, c3, c4, c5, c6, c7, c8, c9].drop 9).take (Try.prog.cellsOf 22)) = some y8 at h
      rw [show Try.prog.cellsOf 22 = 1 by kernel_rfl] at h
      exact h
    obtain ⟨n0, k0, _, w0⟩ := DataW.trod_int Try.underlying5 t0
    obtain ⟨n1, k1, _, w1⟩ := DataW.trod_int Try.underlying5 t1
    obtain ⟨n2, k2, _, w2⟩ := DataW.trod_int Try.underlying22 t2
    obtain ⟨_, zs, n'', _, hz⟩ := struct_cells Try.underlying46 (by kernel_rfl) (by kernel_rfl) t3
    obtain ⟨v3, z3, e3, _, s3⟩ := hz 0 _ rfl
    obtain ⟨v4, z4, e4, _, s4⟩ := hz 1 _ rfl
    obtain ⟨n3, k3, _, w3⟩ := DataW.trod_int Try.underlying22 s3
    obtain ⟨n4, k4, _, w4⟩ := DataW.trod_int Try.underlying5 s4
    obtain ⟨n5, k5, _, w5⟩ := DataW.trod_int Try.underlying40 t4
    obtain ⟨n6, k6, _, w6⟩ := DataW.trod_int Try.underlying22 t5
    obtain ⟨b7, k7, _⟩ := DataW.trod_bool Try.underlying4 t6
    obtain ⟨n9, k9, _, _⟩ := DataW.trod_int Try.underlying22 t8
    simp only [List.cons.injEq, and_true] at k0 k1 k2 k3 k4 k5 k6 k7 k9
    simp only [List.getElem?_cons_zero, List.getElem?_cons_succ, Option.some.injEq] at e3 e4
    subst k0 k1 k2 k3 k4 k5 k6 k7 k9 e3 e4
    obtain ⟨fl, hfl, hfd⟩ := slice_arg (f := u32Cells) (s := 1) (fun x _ => 0 ≤ x ∧ x ≤ 4294967295) (by omega) u32Cells_len Try.underlying29 (by kernel_rfl) u32_elem t7
    refine ⟨⟨n0, n1, n2, n3, n4, n5, n6, b7, c8, fl, n9⟩, rfl, hfl, u8_range w0, u8_range w1, u32_range w2, u32_range w3, u8_range w4, u16_range w5, u32_range w6, ?_, ?_⟩
    · rcases hfd with ⟨_, rfl⟩ | ⟨D, rest, _, hq⟩
      · intro e he; cases he
      · intro e he
        obtain ⟨i, hi, rfl⟩ := List.mem_iff_getElem.1 he
        exact hq i hi
    · have h1 : fl.length ≤ Rows.uptoBulk y7.1 := by
        rcases hfd with ⟨_, rfl⟩ | ⟨D, rest, hd, hq⟩
        · simp
        · rw [hd]
          have h := bulk_slice (fun _ => 1) fl D rest (fun i _ => bulk_pos _)
          rw [sum_ones] at h
          omega
      have h2 := bulk_part (d := y7.1) (parts := [y0, y1, y2, y3, y4, y5, y6, y7, y8].map (·.1)) (by simp)
      show fl.length + 1 ≤ _
      simp only [Rows.uptoBulk]
      omega

set_option maxRecDepth 100000 in
/-- A port, as an argument. -/
theorem port_arg {base : Nat} {v : Value} {d : DataW H} {p : List MemPlace} (hok : Value.okWide Try.prog W .any base 72 v) (h : DataW.Trod enc Try.prog W 0 spare held 72 v d p) :
    ∃ q : OPort, v = portVal q ∧ PortOk W q d := by
  obtain ⟨cs, rfl, _⟩ := okWide_struct Try.underlying72 hok
  obtain ⟨fuel, hf⟩ := h
  obtain ⟨q, hq, hp⟩ := port_elem _ _ _ hf
  refine ⟨q, ?_, hp⟩
  have : cs = (portCells q).toArray := by rw [← hq]; simp [Value.cells]
  rw [this]
  rfl
end
end Go.Proofs.Ytdilbcmnfpmijaa
