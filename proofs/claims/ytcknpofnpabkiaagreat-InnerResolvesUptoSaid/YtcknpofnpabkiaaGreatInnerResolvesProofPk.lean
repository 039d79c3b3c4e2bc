/- lodestarlaw18's InnerResolves holds for every input: it answers true, and the input reads behind the call as it did. The form's own premise: what is read holds at most 1048576 parts. -/
import Derived.Test.YtcknpofnpabkiaaGreatRows
import Derived.ProofKit
import Derived.OpenShut
import Derived.JoinedCond
import Derived.Test.YtcknpofnpabkiaaGreatRpCB
import Derived.Test.YtcknpofnpabkiaaGreatRpBW
namespace Go.Proofs.YtcknpofnpabkiaaGreat.innerResolves
open Go.ChangeShapes Go.WideShapes Go.ChangeAt Go.RowKit Go.Lo

theorem own : ownKnob Tryz.prog.godebug = none := by kernel_rfl

set_option maxRecDepth 100000 in
theorem contract (H : Type) (enc : TypeId × Value → H) (W : World) (base : Nat) (args : Array Value) (ds gs : List (DataW H)) (before : List MemPlace)
    (hval : ∀ (j : Nat) t v, Tryz.f7.params[j]? = some t → args[j]? = some v → Value.okWide Tryz.prog W .any base t v)
    (hW : DataW.Whole enc Tryz.prog Tryz.f7.params.toList Rows.innerResolvesSpec.vars false W args.toList ds gs before)
    (hk : Rows.uptoSmall H (ds ++ gs) = true) :
    Calls Tryz.prog 7 args W fun e W' => ∃ v, e = .returned v ∧ Rows.innerResolvesSpec.post enc Tryz.prog Tryz.f7 false true false false W args v W' := by
  have hW' := hW
  obtain ⟨p, q, hA0, hV, rfl, hfz, hnd⟩ := hW
  have hA : DataW.TrodAll enc Tryz.prog W 0 (fun _ => true) true Tryz.f7.params.toList args.toList ds p := hA0
  rw [Tryz.params7] at hA hval
  obtain ⟨v0, vs0, d0, ds0, p0, q0, hargs, rfl, rfl, h0, r0⟩ := trodAll_cons hA
  obtain ⟨v1, vs1, d1, ds1, p1, q1, rfl, rfl, rfl, h1, r1⟩ := trodAll_cons r0
  obtain ⟨rfl, rfl, rfl⟩ := trodAll_nil r1
  obtain rfl : args = #[v0, v1] := by cases args; simp_all
  obtain ⟨rfl, rfl⟩ := trodVars_none hV
  have hk' : Rows.uptoBulkAll ([d0, d1] ++ []) ≤ 1048576 := of_decide_eq_true hk
  have b0 := bulk_part (d := d0) (parts := [d0, d1] ++ []) (by simp)
  have b1 := bulk_part (d := d1) (parts := [d0, d1] ++ []) (by simp)
  obtain ⟨x0, xn, xc, rfl⟩ := okWide_slice Tryz.underlying39 (hval 0 _ v0 rfl rfl)
  obtain ⟨fux, hfux⟩ := id h0
  have hfx : DataW.trod enc Tryz.prog W 0 (fun _ => true) true fux 39 [.slice x0 xn xc] = some (d0, p0) := hfux
  obtain ⟨lx, x1, x2, x3⟩ := ways_arg hfx
  dsimp only at x2 x3
  obtain ⟨Rx, hRx, hRox⟩ := ways_ofI x1 x3 (by omega)
  obtain ⟨y0, yn, yc, rfl⟩ := okWide_slice Tryz.underlying39 (hval 1 _ v1 rfl rfl)
  obtain ⟨fuy, hfuy⟩ := id h1
  have hfy : DataW.trod enc Tryz.prog W 0 (fun _ => true) true fuy 39 [.slice y0 yn yc] = some (d1, p1) := hfuy
  obtain ⟨ly, y1, y2, y3⟩ := ways_arg hfy
  dsimp only at y2 y3
  obtain ⟨Ry, hRy, hRoy⟩ := ways_ofI y1 y3 (by omega)
  clear hA0 hk
  simp only [List.append_nil] at hW'
  have C := innerResolves_any _ _ _ Rx Ry lx ly W hRx hRy (Nat.le_refl _) hRox hRoy (by omega) (by omega)
  refine Calls.mono C ?_
  rintro e W' ⟨rfl, hB⟩
  have hlt : ∀ q ∈ p0 ++ (p1), q.block < W.heap.size := fun q hq => hW'.lt q hq
  refine ⟨_, rfl, post_of_below (pa := p0 ++ (p1)) (pv := []) hW' (fun _ _ _ => (trodAll_cons_mk (shut_bool Tryz.underlying4 _) trodAll_mk0)) (fun sp hsp => ?_) (fun _ _ => rfl) (by simp) hB (ok_one (by kernel_rfl) rfl (okWide_bool_mk Tryz.underlying4 _))⟩
  have e : Tryz.f7.params.toList = [39, 39] := by rw [Tryz.params7]
  rw [e]
  have k0 := trod_behind (by kernel_rfl) (by kernel_rfl) (of_decide_eq_true (by kernel_rfl)) h0 hB (fun q hq => hlt q (by simp [hq])) (fun q hq => hsp q (by simp [hq]))
  have k1 := trod_behind (by kernel_rfl) (by kernel_rfl) (of_decide_eq_true (by kernel_rfl)) h1 hB (fun q hq => hlt q (by simp [hq])) (fun q hq => hsp q (by simp [hq]))
  have := trodAll_cons_mk k0 (trodAll_cons_mk k1 trodAll_mk0)
  simp only [List.append_nil] at this
  exact this

set_option maxRecDepth 100000 in
theorem lifted (os : Os) (started : os.Started) (H : Type) (enc : TypeId × Value → H) (F : Stop.Interp) :
    ReturnsInHanded {} Tryz.checked os 7 .any ((Rows.OpenSpec.upto Rows.innerResolvesSpec).pre6 enc Tryz.prog Tryz.f7 Rows.innerResolvesUptoRow.domain false) (((Rows.OpenSpec.upto Rows.innerResolvesSpec).at F).post enc Tryz.prog Tryz.f7 false true false false) := by
  refine returnsInHanded_of_cond (C := Tryz.checked) (s := Rows.OpenSpec.upto Rows.innerResolvesSpec) (k := Rows.uptoSmall) rfl own started (by kernel_rfl) Tryz.func7
    (OpenSpec.witness (enc := enc) (C := Tryz.checked) (s := Rows.OpenSpec.upto Rows.innerResolvesSpec) (k := Rows.uptoSmall) rfl false ⟨#[], #[.slice none 0 0, .slice none 0 0], []⟩ 8 (by kernel_rfl) (by kernel_rfl) (by kernel_rfl)
      (x := ([.nil, .nil], [], [])) (by kernel_rfl) rfl (by kernel_rfl)) ?_
  intro W base args ds gs before hval hW _ hk _
  exact contract H enc W base args ds gs before hval hW hk

theorem over : Rows.innerResolvesUptoRow.holds Tryz.pinned (Rows.OpenSpec.upto Rows.innerResolvesSpec) :=
  OpenClaim.holds_of_cond 7 Tryz.f7 rfl rfl rfl rfl rfl rfl rfl ⟨rfl, rfl, rfl, rfl, rfl⟩ rfl rfl rfl rfl rfl (by kernel_rfl) Tryz.func7 (by kernel_rfl)
    (of_decide_eq_true (by kernel_rfl)) (by unfold Func.isWrapper; first | (rw [if_pos (by decide +kernel)]; kernel_rfl) | (rw [if_neg (by decide +kernel)]; exact ⟨rfl, rfl⟩))
    (fun os started H enc _ F => lifted os started H enc F)

theorem proved : Rows.InnerResolvesUptoSaid :=
  over
end Go.Proofs.YtcknpofnpabkiaaGreat.innerResolves
