/- lodestarlaw17's TreeJoins holds whatever the two slices of hops are: it answers true, and the input reads behind the call as it did. No premise beyond the form's own: what is read fits the reach. -/
import Derived.Test.YtkciekogbbpjlaaRows
import Derived.Test.YtkciekogbbpjlaaTreeJoins
import Derived.Test.YtkciekogbbpjlaaArgs
import Derived.ProofKit
import Derived.OpenShut
import Derived.JoinedOf
import Derived.SizedLaws
import Derived.Carry
namespace Go.Proofs.Ytkciekogbbpjlaa.treeJoins
open Go.ChangeShapes Go.WideShapes Go.ChangeAt Go.RowKit Go.Lo

theorem own : ownKnob Try.prog.godebug = none := by kernel_rfl

theorem short {H : Type} {ts : List TypeId} {ds : List (DataW H)} (hsz : (DataW.weightsEach Try.prog ts ds).all (· ≤ reachBytes) = true) {j n : Nat} {d : DataW H} (ht : ts[j]? = some 65) (hd : ds[j]? = some d)
    (h : (d = .nil ∧ n = 0) ∨ ∃ elems rest, d = .slice elems rest ∧ elems.length = n) : n < 2 ^ 47 := by
  rcases h with ⟨_, rfl⟩ | ⟨elems, rest, rfl, rfl⟩
  · omega
  · have h1 := sized_slice hsz ht hd Try.underlying65
    have h2 := reachBytes_lt
    rw [show Try.prog.bytesOf 89 = 12 by kernel_rfl] at h1
    omega

set_option maxRecDepth 100000 in
theorem contract (H : Type) (enc : TypeId × Value → H) (W : World) (base : Nat) (args : Array Value) (ds gs : List (DataW H)) (before : List MemPlace)
    (hval : ∀ (j : Nat) t v, Try.f6.params[j]? = some t → args[j]? = some v → Value.okWide Try.prog W .any base t v)
    (hW : DataW.Whole enc Try.prog Try.f6.params.toList Rows.treeJoinsSpec.vars false W args.toList ds gs before)
    (hsz : (DataW.weightsEach Try.prog (Try.f6.params.toList ++ Rows.treeJoinsSpec.plain.varTypes Try.prog) (ds ++ gs)).all (· ≤ reachBytes) = true) :
    Calls Try.prog 6 args W fun e W' => ∃ v, e = .returned v ∧ Rows.treeJoinsSpec.post enc Try.prog Try.f6 false true false false W args v W' := by
  have hW' := hW
  obtain ⟨p, q, hA0, hV, rfl, hfz, hnd⟩ := hW
  have hA : DataW.TrodAll enc Try.prog W 0 (fun _ => true) true Try.f6.params.toList args.toList ds p := hA0
  rw [Try.params6] at hA hval hsz
  obtain ⟨v0, vs0, d0, ds0, p0, q0, hargs, rfl, rfl, h0, r0⟩ := trodAll_cons hA
  obtain ⟨v1, vs1, d1, ds1, p1, q1, rfl, rfl, rfl, h1, r1⟩ := trodAll_cons r0
  obtain ⟨rfl, rfl, rfl⟩ := trodAll_nil r1
  obtain rfl : args = #[v0, v1] := by cases args; simp_all
  obtain ⟨rfl, rfl⟩ := trodVars_none hV
  simp only [List.append_nil] at hW' hsz
  obtain ⟨a, ha, hda⟩ := hops_arg (hval 0 _ v0 rfl rfl) h0
  obtain ⟨b, hb, hdb⟩ := hops_arg (hval 1 _ v1 rfl rfl) h1
  have hla := short hsz (j := 0) rfl rfl hda
  have hlb := short hsz (j := 1) rfl rfl hdb
  refine Calls.mono (joins_any a b v0 v1 W ha hb (by omega)) ?_
  rintro e W' ⟨rfl, hB⟩
  have hlt : ∀ x ∈ p0 ++ p1, x.block < W.heap.size := fun x hx => hW'.lt x hx
  refine ⟨_, rfl, post_of_below (pa := p0 ++ p1) (pv := []) hW' (fun _ _ _ => (trodAll_cons_mk (shut_bool Try.underlying4 _) trodAll_mk0)) (fun sp hsp => ?_) (fun _ _ => rfl) (by simp) hB (ok_one (by kernel_rfl) rfl (okWide_bool_mk Try.underlying4 _))⟩
  have e : Try.f6.params.toList = [65, 65] := by rw [Try.params6]
  rw [e]
  have k0 := trod_behind (by kernel_rfl) (by kernel_rfl) (of_decide_eq_true (by kernel_rfl)) h0 hB (fun x hx => hlt x (by simp [hx])) (fun x hx => hsp x (by simp [hx]))
  have k1 := trod_behind (by kernel_rfl) (by kernel_rfl) (of_decide_eq_true (by kernel_rfl)) h1 hB (fun x hx => hlt x (by simp [hx])) (fun x hx => hsp x (by simp [hx]))
  have := trodAll_cons_mk k0 (trodAll_cons_mk k1 trodAll_mk0)
  simp only [List.append_nil] at this
  exact this

set_option maxRecDepth 100000 in
theorem lifted (os : Os) (started : os.Started) (H : Type) (enc : TypeId × Value → H) :
    ReturnsInHanded {} Try.checked os 6 .any (Rows.treeJoinsSpec.pre6 enc Try.prog Try.f6 Rows.treeJoinsRow.domain false) (Rows.treeJoinsSpec.post enc Try.prog Try.f6 false true false false) := by
  refine returnsInHanded_of_change_sized (C := Try.checked) own started (by kernel_rfl) Try.func6
    (ChangeSpec.witness6 (enc := enc) (C := Try.checked) (s := Rows.treeJoinsSpec) false ⟨#[], #[.slice none 0 0, .slice none 0 0], []⟩ 8 (by kernel_rfl) (by kernel_rfl) (by kernel_rfl) (by kernel_rfl) rfl) ?_
  intro W base args ds gs before hval hW _ hsz _
  exact contract H enc W base args ds gs before hval hW hsz

theorem over : Rows.treeJoinsRow.holds Try.pinned (OpenSpec.ofChange Rows.treeJoinsSpec) :=
  OpenClaim.holds_of_wide 6 Try.f6 rfl rfl rfl rfl rfl rfl rfl ⟨rfl, rfl, rfl, rfl, rfl⟩ rfl rfl rfl rfl rfl (by kernel_rfl) Try.func6 (by kernel_rfl)
    (of_decide_eq_true (by kernel_rfl)) (by unfold Func.isWrapper; first | (rw [if_pos (by decide +kernel)]; kernel_rfl) | (rw [if_neg (by decide +kernel)]; exact ⟨rfl, rfl⟩))
    (fun os started H enc _ => lifted os started H enc)

theorem proved : Rows.TreeJoinsSaid :=
  over
end Go.Proofs.Ytkciekogbbpjlaa.treeJoins
