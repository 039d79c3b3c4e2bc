/- state's readSummary and writeSummary. Conditions: the reader's and the writer's blocks are the call's own. -/
import Derived.Test.YtiikagabdiphkaaGreatOctI
namespace Go.Proofs.YtiikagabdiphkaaGreat
open Go.RowKit Go.Lo

abbrev sumC (m k : Int) : Array Value := #[.int .u8 0, .slice none 0 0, .int .u32 m, .slice none 0 0, .int .u32 k, .bool false, .int .u32 0, .int .u32 0, .slice none 0 0]

/-- a reader is left alone by what is new -/
theorem Rd.below {w w' : World} {b : Nat} {bs : List Int} {a : Nat} {e : Int} {B : Nat} (h : Rd w b bs a e) (hb : Below B w w') (hB : b < B) : Rd w' b bs a e := by
  obtain ⟨h1, v, h2, h3⟩ := h
  exact ⟨h1, v, h2.below hb hB, h3.below (hb.mono (Nat.le_of_lt hB))⟩
theorem Rd.lt {w : World} {b : Nat} {bs : List Int} {a : Nat} {e : Int} (h : Rd w b bs a e) : b < w.heap.size := h.2.elim fun _ h => h.1.lt

set_option maxRecDepth 100000 in
set_option maxHeartbeats 1000000 in
theorem readSummary_any (b : Nat) (bs : List Int) (a : Nat) (e : Int) (w : World) (h : Rd w b bs a e) (hn : bs.length ≤ 140737488355328) (hl : ∀ x ∈ bs, 0 ≤ x ∧ x < 256) : Calls Tryz.prog 184 #[.pointer (some ⟨b, 0, none⟩)] w fun x w' =>
    x = .returned (.agg (sumC (numB (nextB bs a e 4)) (numB (nextB bs (nextS bs a e 4).1 (nextS bs a e 4).2 4)))) ∧ Rd w' b bs (nextS bs (nextS bs a e 4).1 (nextS bs a e 4).2 4).1 (nextS bs (nextS bs a e 4).1 (nextS bs a e 4).2 4).2 ∧ Below b w w' := by
  have hlt := h.lt
  have k0 : Blk (w.alloc (.cells (sumC 0 0) 93)) w.heap.size 93 (sumC 0 0) := Blk.new _ _ _
  have kB : Below w.heap.size w (w.alloc (.cells (sumC 0 0) 93)) := (Below.refl _ _).alloc (Nat.le_refl _) _
  have hR := h.below kB hlt
  have C1 := Lib.hid (rnum_any b bs a e 4 (by omega) (Nat.le_refl _) _ hR hn hl)
  clear h hR
  generalize hm : numB (nextB bs a e 4) = m at C1
  generalize hs : nextS bs a e 4 = s at C1 ⊢
  obtain ⟨a1, e1⟩ := s
  have C2 := Lib.hid (fun W h => rnum_any b bs a1 e1 4 (by omega) (Nat.le_refl _) W h hn hl)
  generalize hm2 : numB (nextB bs a1 e1 4) = m2 at C2
  generalize hs2 : nextS bs a1 e1 4 = s2 at C2
  obtain ⟨a2, e2⟩ := s2
  dsimp only at C1 C2 ⊢
  go_enter Tryz.func184, Tryz.ntmps184
  go_wp2_with (first
    | (have _q := hR2; go_at_call 202; refine Calls.mono (C2.out _ hR2) ?_; rintro x w3 ⟨rfl, hR3, hP3⟩; have k3 := Blk.put hP3 (by omega) k2)
    | (go_at_call 202; refine Calls.mono C1.out ?_; rintro x w2 ⟨rfl, hR2, hP2⟩; have k2 := Blk.put hP2 (by omega) k0)
    | (refine wpList_store_row rfl 93 (.tmp 2) (.tmp 7) rfl w.heap.size (sumC m m2) rfl rfl 93 (sumC 0 0) k3 (by kernel_rfl) rfl (by simp [Value.oneCell']) ?_)
    | fail)
  have hset : Blk (w3.setRow w.heap.size (sumC m m2)) w.heap.size 93 (sumC m m2) := setRow_heap w3 w.heap.size (sumC 0 0) (sumC m m2) 93 (0, 0) k3
  have hz3 := k3.lt
  have hB3 : Below w.heap.size w3 (w3.setRow w.heap.size (sumC m m2)) := ⟨rfl, rfl, rfl, by simp [World.setRow], fun k hk => setRow_other _ _ k _ (by omega)⟩
  refine bodyPost_ret (results_cell_row rfl _ _ w.heap.size 93 (sumC m m2) (0, 0) _ rfl hset Tryz.underlying93 rfl (by kernel_rfl)) rfl ?_
  exact ⟨rfl, hR3.below hB3 hlt, ((hP3.below (hP2.below (kB.mono (Nat.le_of_lt hlt)) (Nat.le_refl _)) (Nat.le_refl _)).trans (hB3.mono (Nat.le_of_lt hlt)))⟩

set_option maxRecDepth 100000 in
set_option maxHeartbeats 1000000 in
theorem writeSummary_any (K : Nat → Prop) (b : Nat) (most : Int) (bs : List Int) (m k : Int) (hm0 : 0 ≤ m ∧ m < 4294967296) (hk0 : 0 ≤ k ∧ k < 4294967296) (w : World) (hW : Wr K w b most bs 0) (hK : ∀ k, K k → k < w.heap.size) (hm : most ≤ 140737488355320) (hr : (bs.length : Int) + 8 ≤ most) :
    Calls Tryz.prog 183 #[.agg #[.pointer (some ⟨b, 0, none⟩)], .agg (sumC m k)] w fun x w' => x = .returned (.tuple #[]) ∧ Keep K w w' ∧ Wr K w' b most (bs ++ (beN m 4 ++ beN k 4)) 0 := by
  have k0 : Blk ((w.alloc (.cells #[.pointer (some ⟨b, 0, none⟩)] 191)).alloc (.cells (sumC m k) 93)) w.heap.size 191 #[.pointer (some ⟨b, 0, none⟩)] := (Blk.new _ _ _).alloc _
  have k1 : Blk ((w.alloc (.cells #[.pointer (some ⟨b, 0, none⟩)] 191)).alloc (.cells (sumC m k) 93)) (w.heap.size + 1) 93 (sumC m k) := heap_alloc2_new w _ _
  have kz : (((w.alloc (.cells #[.pointer (some ⟨b, 0, none⟩)] 191)).alloc (.cells (sumC m k) 93)) : World).heap.size = w.heap.size + 1 + 1 := by simp
  have kK : Keep K w ((w.alloc (.cells #[.pointer (some ⟨b, 0, none⟩)] 191)).alloc (.cells (sumC m k) 93)) := ((Keep.refl _ _).alloc hK _).alloc (fun k hk => by have := hK k hk; simp; omega) _
  have kW := (hW.add (.cells #[.pointer (some ⟨b, 0, none⟩)] 191)).add (.cells (sumC m k) 93)
  obtain ⟨K2, hK2⟩ : ∃ K2 : Nat → Prop, K2 = fun k => (K k ∨ k = w.heap.size) ∨ k = (w.alloc (.cells #[.pointer (some ⟨b, 0, none⟩)] 191)).heap.size := ⟨_, rfl⟩
  have e0 : K2 w.heap.size := by rw [hK2]; exact .inl (.inr rfl)
  have e1 : K2 (w.heap.size + 1) := by rw [hK2]; exact .inr (by simp)
  have e2 : ∀ k, K k → K2 k := fun k hk => by rw [hK2]; exact .inl (.inl hk)
  have kL : ∀ j, K2 j → j < (((w.alloc (.cells #[.pointer (some ⟨b, 0, none⟩)] 191)).alloc (.cells (sumC m k) 93)) : World).heap.size := fun j hj => by
    rw [kz]
    rw [hK2] at hj
    rcases hj with (h | h) | h
    · have := hK j h; omega
    · omega
    · simp at h; omega
  rw [← hK2] at kW
  clear hK2
  go_enter Tryz.func183, Tryz.ntmps183
  go_upto_region 1 with fail
  generalize (w.alloc (.cells #[.pointer (some ⟨b, 0, none⟩)] 191)).alloc (.cells (sumC m k) 93) = w1 at k0 k1 kz kK kW kL ⊢
  have p0 : ∀ W, Keep K2 w1 W → W.cell? ⟨w.heap.size, 0, none⟩ = some (.pointer (some ⟨b, 0, none⟩)) := fun W h => (h.cell (p := ⟨w.heap.size, 0, none⟩) e0).trans (k0.cell 0)
  have q2 : ∀ W, Keep K2 w1 W → W.cell? ⟨w.heap.size + 1, 2, none⟩ = some (.int .u32 m) := fun W h => (h.cell (p := ⟨w.heap.size + 1, 2, none⟩) e1).trans (k1.cell 2)
  have q4 : ∀ W, Keep K2 w1 W → W.cell? ⟨w.heap.size + 1, 4, none⟩ = some (.int .u32 k) := fun W h => (h.cell (p := ⟨w.heap.size + 1, 4, none⟩) e1).trans (k1.cell 4)
  have HW0 : Wr K2 w1.drew b most bs 0 := kW
  have HL := Lib.hid kL
  clear k0 k1 kW hW hK kL
  replace kz := Lib.hid kz
  replace e0 := Lib.hid e0
  replace e1 := Lib.hid e1
  go_region_held3 (fun W => Keep K2 w1 W) (first | assumption | exact (Keep.refl _ _).drew | fail)
    (first
      | (have _q := HSP; go_at_call 201; have C := num4 K2 b most _ k hk0 _ HWP (fun k hk => Nat.lt_of_lt_of_le (HL.out k hk) HSP.size) hm (by rw [List.length_append, beN_len _ _ (Nat.le_refl 4)]; omega); with_reducible refine Calls.mono C ?_; clear C; rintro x w3 ⟨rfl, k1, k2⟩; have HSQ := HSP.trans k1; have HWQ := k2; clear k1 k2)
      | (go_at_call 201; have C := num4 K2 b most bs m hm0 _ HW0 HL.out hm (by omega); with_reducible refine Calls.mono C ?_; clear C; rintro x w2 ⟨rfl, k1, k2⟩; have HSP : Keep K2 w1 w2 := (Keep.refl _ _).drew.trans k1; have HWP := k2; clear k1 k2)
      | fail)
  all_goals
    go_end0
    refine ⟨rfl, kK.trans (HSQ.mono e2), ?_⟩
    have H := HWQ.less e2
    simp only [List.append_assoc] at H
    exact H
end Go.Proofs.YtiikagabdiphkaaGreat
