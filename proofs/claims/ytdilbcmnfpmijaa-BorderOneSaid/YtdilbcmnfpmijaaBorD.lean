/- border's IDs of the two prefixes of layer 23's known run: 10.0.0.0/8 and 10.0.0.0/16. Conditions: the two prefixes lie in memory. -/
import Derived.Test.YtdilbcmnfpmijaaBorC
import Derived.Maps.OwnOps
import Derived.Maps.OwnSet
namespace Go.Proofs.Ytdilbcmnfpmijaa
open Go.RowKit Go.Lo Go.Maps

theorem intT : ElT Try.prog 129 3 1 8 := ⟨by kernel_rfl, by
  obtain ⟨i, hi, h1, h2, h3⟩ := info_parts (show (Try.prog.info? 3).map (fun i => (i.zero, i.size, i.bytes)) = some (some (.int .i64 0), 1, 8) by kernel_rfl)
  exact ⟨i, _, hi, h1, h2, h3, rfl⟩, by omega⟩

theorem bool_inv {H : Type} {P : Program} {e : TypeId} (he : P.underlying e = some .bool) {v : Value} {z : DataW H × List MemPlace} (h : plainElem P e v = some z) : ∃ x, v = .bool x ∧ z = (.lit (.bool x), []) := by
  unfold plainElem at h
  rw [he] at h
  cases v <;> simp_all

theorem lookup_bool {w : World} {b n : Nat} {k e t : TypeId} {P : Program} {D : DataW Unit} (h : w.ownsMap P k (plainElem P e) b n D) (K : Keyed P k) (ht : P.underlying t = some (.map k e)) (he : P.underlying e = some .bool)
    (hz : (zeroValue e).run P w = .ok (.bool false) w) {key : Value} {kl : Lit} (hkey : keyOf P k key = some kl) {c : Bool} (hD : D.atKey kl (.lit (.bool false)) = .lit (.bool c)) :
    (Instr.lookup t (.map (some b)) key false).run P w = .ok (.bool c) w := by
  obtain ⟨v, ps, hrun, hv⟩ := h.lookup K ht hz (plainElem_bool he false) hkey
  obtain ⟨x, rfl, hc⟩ := bool_inv he hv
  simp only [Prod.mk.injEq] at hc
  have h1 := hc.1
  rw [hD] at h1
  simp only [DataW.lit.injEq, Lit.bool.injEq] at h1
  rw [hrun, h1]

theorem u32_keyed : Keyed Try.prog 22 := int_keyed Try.underlying22

/-- the places' row, as far as it is laid -/
def placesRow (k : Nat) : List Value := (List.range k).map fun (i : Nat) => Value.int .i64 (i : Int)
theorem placesRow_succ (k : Nat) : placesRow (k + 1) = placesRow k ++ [.int .i64 (k : Int)] := by
  unfold placesRow
  rw [List.range_succ, List.map_append]
  rfl

theorem make_u32 (W : World) : (Instr.makeSlice 29 (.int .i64 2) (.int .i64 2)).run Try.prog W = .ok (.slice (some ⟨W.heap.size, 0, none⟩) 2 2) (W.alloc (.cells #[.int .u32 0, .int .u32 0] 22)) := by kernel_rfl
theorem make_bool (W : World) : (Instr.makeSlice 60 (.int .i64 2) (.int .i64 2)).run Try.prog W = .ok (.slice (some ⟨W.heap.size, 0, none⟩) 2 2) (W.alloc (.cells #[.bool false, .bool false] 4)) := by kernel_rfl

/-- what the first region makes: a row of IDs and a row of flags -/
def IdsR (w : World) (v4 v5 : Value) (wx : World) : Prop :=
  ∃ b4 b5, v4 = .slice (some ⟨b4, 0, none⟩) 2 2 ∧ v5 = .slice (some ⟨b5, 0, none⟩) 2 2 ∧ b4 ≠ b5 ∧ w.heap.size ≤ b4 ∧ w.heap.size ≤ b5 ∧ Blk wx b4 22 #[.int .u32 0, .int .u32 0] ∧ Blk wx b5 4 #[.bool false, .bool false] ∧ Below w.heap.size w wx

/-- the rows and the map in the last loop's rounds -/
def idsC : Nat → Array Value
  | 0 => #[.int .u32 0, .int .u32 0]
  | 1 => #[.int .u32 167772160, .int .u32 0]
  | _ => #[.int .u32 167772160, .int .u32 167837695]
def flagsC : Nat → Array Value
  | 0 => #[.bool false, .bool false]
  | 1 => #[.bool true, .bool false]
  | _ => #[.bool true, .bool true]
def takenD : Nat → DataW Unit
  | 0 => .map []
  | 1 => (DataW.map []).put (.int .u32 167772160) (.lit (.bool true))
  | _ => ((DataW.map []).put (.int .u32 167772160) (.lit (.bool true))).put (.int .u32 167837695) (.lit (.bool true))

set_option maxRecDepth 100000 in
set_option maxHeartbeats 2000000 in
theorem ids_any (bl : Nat) (w : World) (hl : bl < w.heap.size) (h0 : w.cell? ⟨bl, 0, none⟩ = some (.int .u32 167772160)) (h1 : w.cell? ⟨bl, 1, none⟩ = some (.int .u8 8)) (h2 : w.cell? ⟨bl, 2, none⟩ = some (.int .u32 167772160)) (h3 : w.cell? ⟨bl, 3, none⟩ = some (.int .u8 16)) :
    Calls Try.prog 38 #[.slice (some ⟨bl, 0, none⟩) 2 2] w fun e w' => ∃ bi bs, e = .returned (.tuple #[.slice (some ⟨bi, 0, none⟩) 2 2, .slice (some ⟨bs, 0, none⟩) 2 2]) ∧ Blk w' bi 22 (idsC 2) ∧ Blk w' bs 4 (flagsC 2) ∧ Below w.heap.size w w' := by
  go_enter Try.func38, Try.ntmps38
  go_wp2_with fail
  go_cut [4, 5] (fun v4 v5 wx => IdsR w v4 v5 wx)
  case first =>
    have m1 := make_u32
    have m2 := make_bool
    clear h0 h1 h2 h3
    go_region
    all_goals go_wp2_with fail
    all_goals go_meet
    case rel => exact ⟨_, _, rfl, rfl, by simp, by simp, by simp, Blk.drew_ ((Blk.new _ _ _).alloc _), Blk.drew_ (heap_alloc2_new _ _ _), (((Below.refl _ _).alloc (by simp) _).alloc (by simp) _).drew⟩
    case rel => exact ⟨_, _, rfl, rfl, by simp, by simp, by simp, Blk.drew_ (heap_alloc2_new _ _ _), Blk.drew_ ((Blk.new _ _ _).alloc _), (((Below.refl _ _).alloc (by simp) _).alloc (by simp) _).drew⟩
  case rest =>
    obtain ⟨b4, b5, rfl, rfl, hne, hg4, hg5, hk4, hk5, hB⟩ := hcut
    have hP := Blk.new wc 138 #[.slice (some ⟨bl, 0, none⟩) 2 2, .slice none 0 0]
    have hB0 := hB.alloc hB.size (.cells #[.slice (some ⟨bl, 0, none⟩) 2 2, .slice none 0 0] 138)
    have hk4' := hk4.alloc (.cells #[.slice (some ⟨bl, 0, none⟩) 2 2, .slice none 0 0] 138)
    have hk5' := hk5.alloc (.cells #[.slice (some ⟨bl, 0, none⟩) 2 2, .slice none 0 0] 138)
    have l4 := hk4.lt
    have l5 := hk5.lt
    have hwz := hB.size
    have hz0 : (wc.alloc (.cells #[.slice (some ⟨bl, 0, none⟩) 2 2, .slice none 0 0] 138)).heap.size = wc.heap.size + 1 := by simp
    clear hk4 hk5 hB
    go_wp2_with fail
    generalize wc.alloc (.cells #[.slice (some ⟨bl, 0, none⟩) 2 2, .slice none 0 0] 138) = w0 at hP hB0 hk4' hk5' hz0 ⊢
    generalize wc.heap.size = bp at hP hz0 l4 l5 hwz ⊢
    go_loopg [22] 2 (fun m i wr => ∃ (k : Nat) (v : Value), k ≤ 2 ∧ m = 2 - k ∧ i = .int .i64 k ∧ Blk wr bp 138 #[.slice (some ⟨bl, 0, none⟩) 2 2, v] ∧ wr.ownsRow w0.heap.size 3 1 v k (placesRow k) ∧ (∀ b, b < w0.heap.size → b ≠ bp → wr.heap[b]? = w0.heap[b]?) ∧ Below w.heap.size w wr ∧ w0.heap.size ≤ wr.heap.size)
    case atStart => exact ⟨0, .slice none 0 0, by omega, rfl, rfl, hP, World.ownsRow_nil _ _ _ _, fun _ _ _ => rfl, hB0, Nat.le_refl _⟩
    case round =>
      obtain ⟨k, v, hk, rfl, rfl, hT, ho, hsame, hB, hz⟩ := hrel
      obtain ⟨w2, rfl⟩ : ∃ x : World, x = wr := ⟨_, rfl⟩
      obtain ⟨-, Al, cl, rfl, -⟩ := Sl.of_own ho
      have t1 := hT.cell 1
      simp only [List.getElem?_toArray, List.getElem?_cons_zero, List.getElem?_cons_succ] at t1
      by_cases hkl : k < 2
      · have ik : (k : Int) < 2 := by omega
        have hlt := hT.lt
        replace hT := Lib.hid hT
        replace hsame := Lib.hid hsame
        replace ho := Lib.hid ho
        go_wp2_with (at_builtin; refine wpList_append rfl (.tmp 26) (.tmp 28) 129 rfl w0.heap.size intT (.slice Al k cl) k (placesRow k) rfl (own_alloc ho.out _) _ _ 1 [.int .i64 k] rfl (Sl.lit _ #[.int .i64 k] 3 (by simp [maxLen]) rfl) (by simp [Value.oneCell']) (by simp only [maxLen]; omega) (by omega) (by simp; omega) ?_; intro v3 w3 ho3 hg3 hob3; have hT3 : Blk w3 bp 138 #[.slice (some ⟨bl, 0, none⟩) 2 2, .slice Al k cl] := (hT.out.alloc (.cells #[.int .i64 k] 3)).same (hg3.block _ (by simp; omega) (fun e => by have := (ho.out.lt _ e.symm).1; omega)); have t3c := hT3.cell 1; have f3c := hT3.free 1; simp only [List.getElem?_toArray, List.getElem?_cons_zero, List.getElem?_cons_succ] at t3c; replace hT3 := Lib.hid hT3; replace hg3 := Lib.hid hg3; replace ho3 := Lib.hid ho3; obtain ⟨-, A3, c3, rfl, -⟩ := Sl.of_own ho3.out)
        replace hg3 := hg3.out
        replace ho3 := ho3.out
        have hB3 : Below w.heap.size w w3 := (hB.alloc hB.size (.cells #[.int .i64 k] 3)).trans (below_of_grown hg3 (by have := hB.size; simp; omega) (fun g hg => by have h1 := (ho.out.lt g hg).1; omega))
        have hsz := hg3.size
        simp at hsz
        go_roundg (2 - (k + 1))
        case measure => omega
        case rel =>
          refine ⟨k + 1, _, by omega, rfl, by go_num, hT3.out.set_ 1 _, ?_, ?_, Below.setCell hB3 (p := ⟨bp, 1, none⟩) hwz _, ?_⟩
          · rw [placesRow_succ]
            exact own_same ho3 fun g hg => Below.heap_setCell w3 ⟨bp, 1, none⟩ _ g (fun e => by have h1 := (ho3.lt g hg).1; have h2 : g = bp := e; omega)
          · exact fun b hb hne' => (Below.heap_setCell w3 ⟨bp, 1, none⟩ _ b hne').trans ((hg3.block b (by simp; omega) (fun e => by have := (ho.out.lt b e.symm).1; omega)).trans ((Below.heap_alloc w2 (.cells #[.int .i64 k] 3) b (by omega)).trans (hsame.out b hb hne')))
          · simp
            omega
      · obtain rfl : k = 2 := by omega
        obtain ⟨ga, ca, hv, hga, hgl⟩ := ho.form (by omega)
        simp only [Value.slice.injEq] at hv
        obtain ⟨rfl, -, rfl⟩ := hv
        have a0 : w2.cell? ⟨ga, 0, none⟩ = some (.int .i64 0) := ho.cellAt 0 (by omega)
        have a1 : w2.cell? ⟨ga, 1, none⟩ = some (.int .i64 1) := ho.cellAt 1 (by omega)
        have t0 := hT.cell 0
        simp only [List.getElem?_toArray, List.getElem?_cons_zero] at t0
        have hk4 := hk4'.same (w' := w2) (hsame _ (by omega) (by omega))
        have hk5 := hk5'.same (w' := w2) (hsame _ (by omega) (by omega))
        have e0 := (hB.cell (p := ⟨bl, 0, none⟩) hl).trans h0
        have e1 := (hB.cell (p := ⟨bl, 1, none⟩) hl).trans h1
        have e2 := (hB.cell (p := ⟨bl, 2, none⟩) hl).trans h2
        have e3 := (hB.cell (p := ⟨bl, 3, none⟩) hl).trans h3
        have hl2 : bl < w2.heap.size := by have := hB.size; omega
        have hbp : bp < w2.heap.size := hT.lt
        have lw4 := hk4.lt
        have lw5 := hk5.lt
        clear hk4' hk5' hP hB0 ho hsame hkl hk
        have CS := Lib.hid (sortfunc2_any ga cl (.agg #[.slice (some ⟨bl, 0, none⟩) 2 2, .slice (some ⟨ga, 0, none⟩) 2 cl]) w2 hgl a0 a1 (fun W hW => places_gt bl 167772160 16 8 2 _ (by omega) W (by have := hW.size; omega) ((hW.cell (p := ⟨bl, 0, none⟩) hl2).trans e0) ((hW.cell (p := ⟨bl, 1, none⟩) hl2).trans e1) ((hW.cell (p := ⟨bl, 2, none⟩) hl2).trans e2) ((hW.cell (p := ⟨bl, 3, none⟩) hl2).trans e3)))
        go_upto_region 9 with (go_at_call 54; refine Calls.mono CS.out ?_; rintro e w3 ⟨rfl, hB3⟩)
        clear CS
        have k4 := Blk.call hB3 hk4
        have k5 := Blk.call hB3 hk5
        have A0 := (hB3.cell (p := ⟨ga, 0, none⟩) hgl).trans a0
        have A1 := (hB3.cell (p := ⟨ga, 1, none⟩) hgl).trans a1
        have T1 := (hB3.cell (p := ⟨bp, 1, none⟩) hbp).trans t1
        have hW3 := below_call hB hB3 (Nat.le_refl _)
        have hs3 := hB3.size
        have hM := World.ownsMap_made (H := Unit) w3 Try.prog 22 (plainElem Try.prog 4)
        have k4m := k4.alloc (.map #[] 0)
        have k5m := k5.alloc (.map #[] 0)
        have A0m := (World.cell?_alloc_lt w3 (.map #[] 0) ⟨ga, 0, none⟩ (show ga < w3.heap.size by omega)).trans A0
        have A1m := (World.cell?_alloc_lt w3 (.map #[] 0) ⟨ga, 1, none⟩ (show ga < w3.heap.size by omega)).trans A1
        have T1m := (World.cell?_alloc_lt w3 (.map #[] 0) ⟨bp, 1, none⟩ (show bp < w3.heap.size by omega)).trans T1
        have hW4 := hW3.alloc hW3.size (.map #[] 0)
        have hz4 : (w3.alloc (.map #[] 0)).heap.size = w3.heap.size + 1 := by simp
        clear k4 k5 A0 A1 T1 hk4 hk5 a0 a1 t1 t0 e0 e1 e2 e3 hT hB hB3 hW3
        have hmm := @run_makeMap Try.prog
        go_upto_region 10 with fail
        generalize w3.alloc (.map #[] 0) = w4 at hM k4m k5m A0m A1m T1m hW4 hz4 ⊢
        have hbm : ga < w3.heap.size := by omega
        have hbm4 : b4 < w3.heap.size := by omega
        have hbm5 : b5 < w3.heap.size := by omega
        have hwm : w.heap.size ≤ w3.heap.size := by omega
        generalize w3.heap.size = bm at hM hbm hbm4 hbm5 hwm hz4 ⊢
        clear hmm
        go_wp2_with fail
        go_loopg [41] 2 (fun m i wr => ∃ k : Nat, k ≤ 2 ∧ m = 2 - k ∧ i = .int .i64 k ∧ Blk wr b4 22 (idsC k) ∧ Blk wr b5 4 (flagsC k) ∧ wr.ownsMap Try.prog 22 (plainElem Try.prog 4) bm k (takenD k) ∧ wr.heap[ga]? = w4.heap[ga]? ∧ w4.heap.size ≤ wr.heap.size ∧ Below w.heap.size w wr)
        case atStart => exact ⟨0, by omega, rfl, rfl, k4m, k5m, hM, rfl, Nat.le_refl _, hW4⟩
        case round =>
          obtain ⟨k, hk, rfl, rfl, hk4, hk5, hM, hga', hz5, hB⟩ := hrel
          obtain ⟨w5, rfl⟩ : ∃ x : World, x = wr := ⟨_, rfl⟩
          have n4 : bm ≠ b4 := by omega
          have n5 : bm ≠ b5 := by omega
          have e0 := (hB.cell (p := ⟨bl, 0, none⟩) hl).trans h0
          have e1 := (hB.cell (p := ⟨bl, 1, none⟩) hl).trans h1
          have e2 := (hB.cell (p := ⟨bl, 2, none⟩) hl).trans h2
          have e3 := (hB.cell (p := ⟨bl, 3, none⟩) hl).trans h3
          have g0 := (show w5.cell? ⟨ga, 0, none⟩ = w4.cell? ⟨ga, 0, none⟩ by simp only [World.cell?, hga']).trans A0m
          have g1 := (show w5.cell? ⟨ga, 1, none⟩ = w4.cell? ⟨ga, 1, none⟩ by simp only [World.cell?, hga']).trans A1m
          have hZB : ∀ W, (zeroValue 4).run Try.prog W = .ok (.bool false) W := fun W => by kernel_rfl
          rcases (show k = 0 ∨ k = 1 ∨ k = 2 by omega) with rfl | rfl | rfl
          · have L0 : (Instr.lookup 141 (.map (some bm)) (.int .u32 167772160) false).run Try.prog w5 = .ok (.bool false) w5 := lookup_bool hM u32_keyed Try.underlying141 Try.underlying4 (hZB _) (keyOf_int_mk Try.underlying22 (by decide)) rfl
            have c4 := hk4.cell 0
            have f4 := hk4.free 0
            have c5 := hk5.cell 0
            have f5 := hk5.free 0
            simp only [idsC, flagsC, List.getElem?_toArray, List.getElem?_cons_zero] at c4 c5
            replace hk4 := Lib.hid hk4
            replace hk5 := Lib.hid hk5
            have HM := Lib.hid hM
            clear hM
            go_wp2_with (first
              | (go_at_call 36; refine Calls.mono (mask_any _ ⟨by omega, by omega⟩ _) ?_; rintro e w6 ⟨rfl, rfl⟩)
              | (at_mapUpdate; refine wpList_mapUpdate_own _ rfl _ _ _ 141 rfl 22 4 u32_keyed Try.underlying141 _ bm 0 (takenD 0) rfl (World.ownsMap.setCell (World.ownsMap.setCell HM.out n4 _) n5 _) (by simp only [maxLen]; omega) _ _ (.int .u32 167772160) rfl rfl (keyOf_int_mk Try.underlying22 (by decide)) (.lit (.bool true)) [] (plainElem_bool Try.underlying4 true) ?_; intro w6 hM6 hG6; replace hG6 := Lib.hid hG6)
              | fail)
            replace hG6 := hG6.out
            go_roundg (2 - 1)
            case measure => omega
            case rel =>
              have K4 := ((hk4.out.set_ 0 (.int .u32 167772160)).far (p := ⟨b5, 0, none⟩) hne (.bool true))
              have K5 := ((hk5.out.far (p := ⟨b4, 0, none⟩) hne.symm (.int .u32 167772160)).set_ 0 (.bool true))
              have HB := (hB.setCell (p := ⟨b4, 0, none⟩) hg4 (.int .u32 167772160)).setCell (p := ⟨b5, 0, none⟩) hg5 (.bool true)
              refine ⟨1, by omega, rfl, rfl, K4.same (hG6.block b4 K4.lt (fun e => n4 (Option.some.inj e).symm)), K5.same (hG6.block b5 K5.lt (fun e => n5 (Option.some.inj e).symm)), hM6, ?_, Nat.le_trans (by simpa using hz5) hG6.size, HB.trans (below_of_grown hG6 HB.size (fun g hg => by obtain rfl := Option.some.inj hg; exact hwm))⟩
              exact (hG6.block ga (by simp; omega) (fun e => by have := Option.some.inj e; omega)).trans ((Below.heap_setCell _ ⟨b5, 0, none⟩ _ ga (by show ga ≠ b5; omega)).trans ((Below.heap_setCell _ ⟨b4, 0, none⟩ _ ga (by show ga ≠ b4; omega)).trans hga'))
          · have L0 : (Instr.lookup 141 (.map (some bm)) (.int .u32 167772160) false).run Try.prog w5 = .ok (.bool true) w5 := lookup_bool hM u32_keyed Try.underlying141 Try.underlying4 (hZB _) (keyOf_int_mk Try.underlying22 (by decide)) rfl
            have L1 : (Instr.lookup 141 (.map (some bm)) (.int .u32 167837695) false).run Try.prog w5 = .ok (.bool false) w5 := lookup_bool hM u32_keyed Try.underlying141 Try.underlying4 (hZB _) (keyOf_int_mk Try.underlying22 (by decide)) rfl
            have hid2 : bits BinOp.or IntKind.u32 167772160 (bits BinOp.xor IntKind.u32 IntKind.u32.max (maskI 16)) = 167837695 := by decide
            have c4 := hk4.cell 1
            have f4 := hk4.free 1
            have c5 := hk5.cell 1
            have f5 := hk5.free 1
            simp only [idsC, flagsC, List.getElem?_toArray, List.getElem?_cons_zero, List.getElem?_cons_succ] at c4 c5
            replace hk4 := Lib.hid hk4
            replace hk5 := Lib.hid hk5
            have HM := Lib.hid hM
            clear hM
            go_wp2_with (first
              | (go_at_call 36; refine Calls.mono (mask_any _ ⟨by omega, by omega⟩ _) ?_; rintro e w6 ⟨rfl, rfl⟩)
              | (at_mapUpdate; refine wpList_mapUpdate_own _ rfl _ _ _ 141 rfl 22 4 u32_keyed Try.underlying141 _ bm 1 (takenD 1) rfl (World.ownsMap.setCell (World.ownsMap.setCell HM.out n4 _) n5 _) (by simp only [maxLen]; omega) _ _ (.int .u32 167837695) rfl rfl (keyOf_int_mk Try.underlying22 (by decide)) (.lit (.bool true)) [] (plainElem_bool Try.underlying4 true) ?_; intro w6 hM6 hG6; replace hG6 := Lib.hid hG6)
              | fail)
            replace hG6 := hG6.out
            go_roundg (2 - 2)
            case measure => omega
            case rel =>
              have K4 := ((hk4.out.set_ 1 (.int .u32 167837695)).far (p := ⟨b5, 1, none⟩) hne (.bool true))
              have K5 := ((hk5.out.far (p := ⟨b4, 1, none⟩) hne.symm (.int .u32 167837695)).set_ 1 (.bool true))
              have HB := (hB.setCell (p := ⟨b4, 1, none⟩) hg4 (.int .u32 167837695)).setCell (p := ⟨b5, 1, none⟩) hg5 (.bool true)
              refine ⟨2, by omega, rfl, rfl, K4.same (hG6.block b4 K4.lt (fun e => n4 (Option.some.inj e).symm)), K5.same (hG6.block b5 K5.lt (fun e => n5 (Option.some.inj e).symm)), hM6, ?_, Nat.le_trans (by simpa using hz5) hG6.size, HB.trans (below_of_grown hG6 HB.size (fun g hg => by obtain rfl := Option.some.inj hg; exact hwm))⟩
              exact (hG6.block ga (by simp; omega) (fun e => by have := Option.some.inj e; omega)).trans ((Below.heap_setCell _ ⟨b5, 1, none⟩ _ ga (by show ga ≠ b5; omega)).trans ((Below.heap_setCell _ ⟨b4, 1, none⟩ _ ga (by show ga ≠ b4; omega)).trans hga'))
          · go_wp2
            refine bodyPost_ret (results_tmp2 rfl _ _ _) rfl ?_
            exact ⟨b4, b5, rfl, hk4, hk5, hB⟩
end Go.Proofs.Ytdilbcmnfpmijaa
