/- state's writeOuter of a route of type 1. Conditions: the writer's block is the call's own, the numbers are of their kinds. -/
import Derived.Test.YtiikagabdiphkaaGreatOctS
namespace Go.Proofs.YtiikagabdiphkaaGreat
open Go.RowKit Go.Lo

theorem num4_beside (K2 : Nat → Prop) (b : Nat) (most : Int) (bs : List Int) (v : Int) (hv : 0 ≤ v ∧ v < 4294967296) (w1 : World) (h : Wr K2 w1 b most bs 0) (hK : ∀ k, K2 k → k < w1.heap.size) (hm : most ≤ 140737488355320) (hr : (bs.length : Int) + 4 ≤ most) :
    Calls Tryz.prog 201 #[.pointer (some ⟨b, 0, none⟩), .int .u32 v, .int .i64 4] ((w1.alloc (.cells #[.int .u8 0] 5)).drew) fun x w2 => x = .returned (.pointer (some ⟨b, 0, none⟩)) ∧ Keep K2 w1 w2 ∧ Wr (fun k => K2 k ∨ k = w1.heap.size) w2 b most (bs ++ beN v 4) 0 ∧ Sl w2 (w1.heap.size + 1) 1 (.slice (some ⟨w1.heap.size, 0, none⟩) 1 1) 1 ([0].map u8c) ∧ w1.heap.size < w2.heap.size := by
  have hs : ((w1.alloc (.cells #[.int .u8 0] 5)).drew).heap.size = w1.heap.size + 1 := by simp [World.drew]
  have C := num4 (fun k => K2 k ∨ k = w1.heap.size) b most bs v hv ((w1.alloc (.cells #[.int .u8 0] 5)).drew) (Wr.drew (h.add (.cells #[.int .u8 0] 5))) (fun k hk => by
    rw [hs]
    rcases hk with hk | hk
    · have := hK k hk; omega
    · omega) hm hr
  refine Calls.mono C ?_
  rintro x w2 ⟨rfl, k1, k2⟩
  refine ⟨rfl, ((Keep.refl _ _).alloc hK _).drew.trans (k1.mono fun k hk => .inl hk), k2, ?_, ?_⟩
  · exact sl_at (k1.blk (.inr rfl) (Blk.drew_ (Blk.new w1 5 #[.int .u8 0]))) 0 1 _ rfl (by simp [maxLen]) (fun j u hu => by rw [Nat.zero_add, List.getElem?_toArray]; exact hu)
  · have := k1.size
    rw [hs] at this
    omega

set_option maxRecDepth 100000 in
set_option maxHeartbeats 4000000 in
theorem writeOuter_any (K : Nat → Prop) (b : Nat) (most : Int) (bs : List Int) (m k fw tg : Int) (hm0 : 0 ≤ m ∧ m < 4294967296) (hk0 : 0 ≤ k ∧ k < 16777216) (hf0 : 0 ≤ fw ∧ fw < 4294967296) (ht0 : 0 ≤ tg ∧ tg < 4294967296) (w : World) (hW : Wr K w b most bs 0) (hK : ∀ k, K k → k < w.heap.size) (hm : most ≤ 140737488355320) (hr : (bs.length : Int) + 16 ≤ most) :
    Calls Tryz.prog 185 #[.agg #[.pointer (some ⟨b, 0, none⟩)], .agg (outC m k false fw tg)] w fun x w' => x = .returned (.tuple #[]) ∧ Keep K w w' ∧ Wr K w' b most (bs ++ (beN m 4 ++ ([0] ++ (beN k 3 ++ (beN fw 4 ++ beN tg 4))))) 0 := by
  have k0 : Blk ((w.alloc (.cells #[.pointer (some ⟨b, 0, none⟩)] 191)).alloc (.cells (outC m k false fw tg) 93)) w.heap.size 191 #[.pointer (some ⟨b, 0, none⟩)] := (Blk.new _ _ _).alloc _
  have k1 : Blk ((w.alloc (.cells #[.pointer (some ⟨b, 0, none⟩)] 191)).alloc (.cells (outC m k false fw tg) 93)) (w.heap.size + 1) 93 (outC m k false fw tg) := heap_alloc2_new w _ _
  have kz : (((w.alloc (.cells #[.pointer (some ⟨b, 0, none⟩)] 191)).alloc (.cells (outC m k false fw tg) 93)) : World).heap.size = w.heap.size + 1 + 1 := by simp
  have kK : Keep K w ((w.alloc (.cells #[.pointer (some ⟨b, 0, none⟩)] 191)).alloc (.cells (outC m k false fw tg) 93)) := ((Keep.refl _ _).alloc hK _).alloc (fun k hk => by have := hK k hk; simp; omega) _
  have kW := (hW.add (.cells #[.pointer (some ⟨b, 0, none⟩)] 191)).add (.cells (outC m k false fw tg) 93)
  obtain ⟨K2, hK2⟩ : ∃ K2 : Nat → Prop, K2 = fun k => (K k ∨ k = w.heap.size) ∨ k = (w.alloc (.cells #[.pointer (some ⟨b, 0, none⟩)] 191)).heap.size := ⟨_, rfl⟩
  have e0 : K2 w.heap.size := by rw [hK2]; exact .inl (.inr rfl)
  have e1 : K2 (w.heap.size + 1) := by rw [hK2]; exact .inr (by simp)
  have e2 : ∀ k, K k → K2 k := fun k hk => by rw [hK2]; exact .inl (.inl hk)
  have kL : ∀ j, K2 j → j < (((w.alloc (.cells #[.pointer (some ⟨b, 0, none⟩)] 191)).alloc (.cells (outC m k false fw tg) 93)) : World).heap.size := fun j hj => by
    rw [kz]
    rw [hK2] at hj
    rcases hj with (h | h) | h
    · have := hK j h; omega
    · omega
    · simp at h; omega
  rw [← hK2] at kW
  clear hK2
  go_enter Tryz.func185, Tryz.ntmps185
  go_upto_region 1 with fail
  dsimp only [outC] at k0 k1 kz kK kW kL
  generalize (w.alloc (.cells #[.pointer (some ⟨b, 0, none⟩)] 191)).alloc (.cells #[.int .u8 0, .slice none 0 0, .int .u32 m, .slice none 0 0, .int .u32 k, .bool false, .int .u32 fw, .int .u32 tg, .slice none 0 0] 93) = w1 at k0 k1 kz kK kW kL ⊢
  have x5 := k1.cell 5
  simp only [List.getElem?_toArray, List.getElem?_cons_zero, List.getElem?_cons_succ] at x5
  go_upto_region 4 with fail
  clear x5
  have p0 : ∀ W, Keep K2 w1 W → W.cell? ⟨w.heap.size, 0, none⟩ = some (.pointer (some ⟨b, 0, none⟩)) := fun W h => (h.cell (p := ⟨w.heap.size, 0, none⟩) e0).trans (k0.cell 0)
  have q2 : ∀ W, Keep K2 w1 W → W.cell? ⟨w.heap.size + 1, 2, none⟩ = some (.int .u32 m) := fun W h => (h.cell (p := ⟨w.heap.size + 1, 2, none⟩) e1).trans (k1.cell 2)
  have q4 : ∀ W, Keep K2 w1 W → W.cell? ⟨w.heap.size + 1, 4, none⟩ = some (.int .u32 k) := fun W h => (h.cell (p := ⟨w.heap.size + 1, 4, none⟩) e1).trans (k1.cell 4)
  have q6 : ∀ W, Keep K2 w1 W → W.cell? ⟨w.heap.size + 1, 6, none⟩ = some (.int .u32 fw) := fun W h => (h.cell (p := ⟨w.heap.size + 1, 6, none⟩) e1).trans (k1.cell 6)
  have q7 : ∀ W, Keep K2 w1 W → W.cell? ⟨w.heap.size + 1, 7, none⟩ = some (.int .u32 tg) := fun W h => (h.cell (p := ⟨w.heap.size + 1, 7, none⟩) e1).trans (k1.cell 7)
  have HW0 : Wr K2 w1.drew b most bs 0 := kW
  have HWr := Lib.hid kW
  clear k0 k1 kW hW hK
  have HL := Lib.hid kL
  clear kL
  replace kz := Lib.hid kz
  replace e0 := Lib.hid e0
  replace e1 := Lib.hid e1
  go_region_held3 (fun W => Keep K2 w1 W) (first | assumption | exact (Keep.refl _ _).drew | exact (Keep.refl _ _).drew.alloc HL.out _ | exact HS1.alloc (fun k hk => Nat.lt_of_lt_of_le (HL.out k hk) HS1.size) _ | fail)
    (first
      | (have _q := HSP; go_at_call 201; (first | (have C := num3 K2 b most _ k hk0 _ HWP (fun k hk => Nat.lt_of_lt_of_le (HL.out k hk) HSP.size) hm (by simp only [List.length_append, List.length_cons, List.length_nil, beN_len _ _ (show 3 ≤ 4 by omega), beN_len _ _ (Nat.le_refl 4)]; omega); with_reducible refine Calls.mono C ?_) | (have C := num4 K2 b most _ fw hf0 _ HWP (fun k hk => Nat.lt_of_lt_of_le (HL.out k hk) HSP.size) hm (by simp only [List.length_append, List.length_cons, List.length_nil, beN_len _ _ (show 3 ≤ 4 by omega), beN_len _ _ (Nat.le_refl 4)]; omega); with_reducible refine Calls.mono C ?_) | (have C := num4 K2 b most _ tg ht0 _ HWP (fun k hk => Nat.lt_of_lt_of_le (HL.out k hk) HSP.size) hm (by simp only [List.length_append, List.length_cons, List.length_nil, beN_len _ _ (show 3 ≤ 4 by omega), beN_len _ _ (Nat.le_refl 4)]; omega); with_reducible refine Calls.mono C ?_)); clear C; rintro x w4 ⟨rfl, k1, k2⟩; have HSQ := HSP.trans k1; clear HSP HWP k1; have HSP := HSQ; have HWP := k2; clear k2 HSQ)
      | (go_at_call 201; have C := num4 K2 b most bs m hm0 _ HW0 HL.out hm (by omega); (with_reducible refine Calls.mono C ?_); clear C; rintro x w2 ⟨rfl, k1, k2⟩; have HS1 : Keep K2 w1 w2 := (Keep.refl _ _).drew.trans k1; have HW1 := k2; clear k1 k2)
      | (have _q := HSl; go_at_call 192; have C := put_room (fun k => K2 k ∨ k = w1.heap.size) b most _ _ _ [0] _ HWB (fun k hk => by rcases hk with hk | hk; (exact Nat.lt_of_lt_of_le (HL.out k hk) HS1.size); omega) (by omega) HSl (by simp only [List.length_append, List.length_cons, List.length_nil, beN_len _ _ (Nat.le_refl 4)]; omega); (with_reducible refine Calls.mono C ?_); clear C; rintro x w3 ⟨rfl, k1, k2⟩; have HSP : Keep K2 w1 w3 := HS1.trans (k1.mono fun k hk => .inl hk); have HWP := k2.less (fun k hk => .inl hk); clear k1 k2)
      | (go_at_call 201; have C := num4_beside K2 b most bs m hm0 w1 HWr.out HL.out hm (by omega); (with_reducible refine Calls.mono C ?_); clear C; rintro x w2 ⟨rfl, HS1, HWB, HSl, HZ⟩)
      | (go_at_call 192; have C := put_room K2 b most _ _ _ [0] _ (HW1.alloc (.cells #[.int .u8 0] 5)) (fun k hk => by have := Nat.lt_of_lt_of_le (HL.out k hk) HS1.size; simp; omega) (by omega) (Sl.lit w2 #[.int .u8 0] 5 (by simp [maxLen]) rfl) (by simp only [List.length_append, List.length_cons, List.length_nil, beN_len _ _ (Nat.le_refl 4)]; omega); (with_reducible refine Calls.mono C ?_); clear C; rintro x w3 ⟨rfl, k1, k2⟩; have HSP : Keep K2 w1 w3 := (HS1.alloc (fun k hk => Nat.lt_of_lt_of_le (HL.out k hk) HS1.size) _).trans k1; have HWP := k2; clear k1 k2)
      | fail)
  all_goals
    go_end0
    refine ⟨rfl, kK.trans (HSP.mono e2), ?_⟩
    have H := HWP.less e2
    simp only [List.append_assoc] at H
    exact H
end Go.Proofs.YtiikagabdiphkaaGreat
