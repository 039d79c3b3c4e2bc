/- lodestarlaw20's OuterBetter holds for every three ways: it answers true, and the input reads behind the call as it did. The form's own premise: what is read holds at most 1048576 parts. -/
import Derived.Test.YtiikagabdiphkaaGreatRows
import Derived.Test.YtiikagabdiphkaaGreatOutN
import Derived.Test.YtiikagabdiphkaaGreatArgsW
import Derived.ProofKit
import Derived.OpenShut
import Derived.JoinedCond
namespace Go.Proofs.YtiikagabdiphkaaGreat.outerBetter
open Go.ChangeShapes Go.WideShapes Go.ChangeAt Go.RowKit Go.Lo

theorem own : ownKnob Tryz.prog.godebug = none := by kernel_rfl

set_option maxRecDepth 100000 in
theorem contract (H : Type) (enc : TypeId × Value → H) (W : World) (base : Nat) (args : Array Value) (ds gs : List (DataW H)) (before : List MemPlace)
    (hval : ∀ (j : Nat) t v, Tryz.f10.params[j]? = some t → args[j]? = some v → Value.okWide Tryz.prog W .any base t v)
    (hW : DataW.Whole enc Tryz.prog Tryz.f10.params.toList Rows.outerBetterSpec.vars false W args.toList ds gs before)
    (hk : Rows.uptoSmall H (ds ++ gs) = true) :
    Calls Tryz.prog 10 args W fun e W' => ∃ v, e = .returned v ∧ Rows.outerBetterSpec.post enc Tryz.prog Tryz.f10 false true false false W args v W' := by
  have hW' := hW
  obtain ⟨p, q, hA0, hV, rfl, hfz, hnd⟩ := hW
  have hA : DataW.TrodAll enc Tryz.prog W 0 (fun _ => true) true Tryz.f10.params.toList args.toList ds p := hA0
  rw [Tryz.params10] at hA hval
  obtain ⟨v0, vs0, d0, ds0, p0, q0, hargs, rfl, rfl, h0, r0⟩ := trodAll_cons hA
  obtain ⟨v1, vs1, d1, ds1, p1, q1, rfl, rfl, rfl, h1, r1⟩ := trodAll_cons r0
  obtain ⟨v2, vs2, d2, ds2, p2, q2, rfl, rfl, rfl, h2, r2⟩ := trodAll_cons r1
  obtain ⟨rfl, rfl, rfl⟩ := trodAll_nil r2
  obtain rfl : args = #[v0, v1, v2] := by cases args; simp_all
  obtain ⟨rfl, rfl⟩ := trodVars_none hV
  obtain ⟨x, rfl, bx, -, -, hx, lx, sx, ux⟩ := way_arg (hval 0 _ v0 rfl rfl) h0
  obtain ⟨y, rfl, by_, -, -, hy, ly, sy, uy⟩ := way_arg (hval 1 _ v1 rfl rfl) h1
  obtain ⟨z, rfl, bz, -, -, hz, lz, sz, uz⟩ := way_arg (hval 2 _ v2 rfl rfl) h2
  have hk' : Rows.uptoBulkAll ([d0, d1, d2] ++ []) ≤ 1048576 := of_decide_eq_true hk
  have b0 := bulk_part (d := d0) (parts := [d0, d1, d2] ++ []) (by simp)
  have b1 := bulk_part (d := d1) (parts := [d0, d1, d2] ++ []) (by simp)
  have b2 := bulk_part (d := d2) (parts := [d0, d1, d2] ++ []) (by simp)
  clear hA0 hk
  simp only [List.append_nil] at hW'
  have C := outerBetter_any x.n y.n z.n x.A y.A z.A x.cap y.cap z.cap hx hy hz W (by have q := sx; rw [lx] at q; exact q) (by have q := sy; rw [ly] at q; exact q) (by have q := sz; rw [lz] at q; exact q) (by omega) (by omega) (by omega) bx by_ bz
  rw [← lx, ← ly, ← lz] at C
  refine Calls.mono C ?_
  rintro e W' ⟨rfl, hB⟩
  have hlt : ∀ q ∈ p0 ++ (p1 ++ p2), q.block < W.heap.size := fun q hq => hW'.lt q hq
  refine ⟨_, rfl, post_of_below (pa := p0 ++ (p1 ++ p2)) (pv := []) hW' (fun _ _ _ => (trodAll_cons_mk (shut_bool Tryz.underlying4 _) trodAll_mk0)) (fun sp hsp => ?_) (fun _ _ => rfl) (by simp) hB (ok_one (by kernel_rfl) rfl (okWide_bool_mk Tryz.underlying4 _))⟩
  have e : Tryz.f10.params.toList = [41, 41, 41] := by rw [Tryz.params10]
  rw [e]
  have k0 := trod_behind (by kernel_rfl) (by kernel_rfl) (of_decide_eq_true (by kernel_rfl)) h0 hB (fun q hq => hlt q (by simp [hq])) (fun q hq => hsp q (by simp [hq]))
  have k1 := trod_behind (by kernel_rfl) (by kernel_rfl) (of_decide_eq_true (by kernel_rfl)) h1 hB (fun q hq => hlt q (by simp [hq])) (fun q hq => hsp q (by simp [hq]))
  have k2 := trod_behind (by kernel_rfl) (by kernel_rfl) (of_decide_eq_true (by kernel_rfl)) h2 hB (fun q hq => hlt q (by simp [hq])) (fun q hq => hsp q (by simp [hq]))
  have := trodAll_cons_mk k0 (trodAll_cons_mk k1 (trodAll_cons_mk k2 trodAll_mk0))
  simp only [List.append_nil] at this
  exact this

set_option maxRecDepth 100000 in
theorem lifted (os : Os) (started : os.Started) (H : Type) (enc : TypeId × Value → H) (F : Stop.Interp) :
    ReturnsInHanded {} Tryz.checked os 10 .any ((Rows.OpenSpec.upto Rows.outerBetterSpec).pre6 enc Tryz.prog Tryz.f10 Rows.outerBetterUptoRow.domain false) (((Rows.OpenSpec.upto Rows.outerBetterSpec).at F).post enc Tryz.prog Tryz.f10 false true false false) := by
  refine returnsInHanded_of_cond (C := Tryz.checked) (s := Rows.OpenSpec.upto Rows.outerBetterSpec) (k := Rows.uptoSmall) rfl own started (by kernel_rfl) Tryz.func10
    (OpenSpec.witness (enc := enc) (C := Tryz.checked) (s := Rows.OpenSpec.upto Rows.outerBetterSpec) (k := Rows.uptoSmall) rfl false ⟨#[], #[.agg #[.int .u32 0, .int .u8 0, .int .u32 0, .int .u8 0, .int .u8 0, .int .u32 0, .int .u32 0, .int .u32 0, .int .u32 0, .slice none 0 0], .agg #[.int .u32 0, .int .u8 0, .int .u32 0, .int .u8 0, .int .u8 0, .int .u32 0, .int .u32 0, .int .u32 0, .int .u32 0, .slice none 0 0], .agg #[.int .u32 0, .int .u8 0, .int .u32 0, .int .u8 0, .int .u8 0, .int .u32 0, .int .u32 0, .int .u32 0, .int .u32 0, .slice none 0 0]], []⟩ 8 (by kernel_rfl) (by kernel_rfl) (by kernel_rfl)
      (x := ([.agg [.agg [.lit (.int .u32 0), .lit (.int .u8 0)], .lit (.int .u32 0), .lit (.int .u8 0), .lit (.int .u8 0), .lit (.int .u32 0), .lit (.int .u32 0), .lit (.int .u32 0), .lit (.int .u32 0), .nil], .agg [.agg [.lit (.int .u32 0), .lit (.int .u8 0)], .lit (.int .u32 0), .lit (.int .u8 0), .lit (.int .u8 0), .lit (.int .u32 0), .lit (.int .u32 0), .lit (.int .u32 0), .lit (.int .u32 0), .nil], .agg [.agg [.lit (.int .u32 0), .lit (.int .u8 0)], .lit (.int .u32 0), .lit (.int .u8 0), .lit (.int .u8 0), .lit (.int .u32 0), .lit (.int .u32 0), .lit (.int .u32 0), .lit (.int .u32 0), .nil]], [], [])) (by kernel_rfl) rfl (by kernel_rfl)) ?_
  intro W base args ds gs before hval hW _ hk _
  exact contract H enc W base args ds gs before hval hW hk

theorem over : Rows.outerBetterUptoRow.holds Tryz.pinned (Rows.OpenSpec.upto Rows.outerBetterSpec) :=
  OpenClaim.holds_of_cond 10 Tryz.f10 rfl rfl rfl rfl rfl rfl rfl ⟨rfl, rfl, rfl, rfl, rfl⟩ rfl rfl rfl rfl rfl (by kernel_rfl) Tryz.func10 (by kernel_rfl)
    (of_decide_eq_true (by kernel_rfl)) (by unfold Func.isWrapper; first | (rw [if_pos (by decide +kernel)]; kernel_rfl) | (rw [if_neg (by decide +kernel)]; exact ⟨rfl, rfl⟩))
    (fun os started H enc _ F => lifted os started H enc F)

theorem proved : Rows.OuterBetterUptoSaid :=
  over
end Go.Proofs.YtiikagabdiphkaaGreat.outerBetter
