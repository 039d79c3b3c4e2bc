/- The document's Encode at the types 3 and 5. Conditions: the numbers are of their kinds, the mask is one, the metric is no more than infinity. -/
import Derived.Test.YtiikagabdiphkaaGreatEncF
import Derived.Test.YtiikagabdiphkaaGreatLib5
namespace Go.Proofs.YtiikagabdiphkaaGreat
open Go.RowKit Go.Lo

/-- the head that Encode is handed -/
abbrev encH3 (age opts id adv seq : Int) : OHead := ⟨age, opts, 3, id, adv, seq, 0, 0⟩

set_option maxRecDepth 100000 in
set_option maxHeartbeats 400000 in
theorem encode3 (age opts id adv seq : Int) (ok : HeadOk (encH3 age opts id adv seq)) (m k : Int) (n : Nat) (hmm : MaskOf m n) (hkk : k ≤ 16777215) (hm0 : 0 ≤ m ∧ m < 4294967296) (hk0 : 0 ≤ k ∧ k < 4294967296) (w : World) :
    Calls Tryz.prog 91 #[.agg #[.int .u16 age, .int .u8 opts, .int .u8 3, .int .u32 id, .int .u32 adv, .int .i32 seq, .int .u16 0, .int .u16 0], .agg (numC m k false 0 0)] w fun x w' => ∃ v r, x = .returned (.tuple #[stateVal { encH3 age opts id adv seq with len := 28, sum := r } v, .int .i64 0]) ∧ sealR (encH3 age opts id adv seq) (beN m 4 ++ beN k 4) r ∧ w'.ownsRow w.heap.size 5 1 v 8 ((beN m 4 ++ beN k 4).map u8c) ∧ Below w.heap.size w w' := by
  have g0 : Blk (((w.alloc (.cells #[.int .u16 age, .int .u8 opts, .int .u8 3, .int .u32 id, .int .u32 adv, .int .i32 seq, .int .u16 0, .int .u16 0] 51)).alloc (.cells #[.int .u8 0, .slice none 0 0, .int .u32 m, .slice none 0 0, .int .u32 k, .bool false, .int .u32 0, .int .u32 0, .slice none 0 0] 93)).alloc (.cells #[.int .u16 0, .int .u8 0, .int .u8 0, .int .u32 0, .int .u32 0, .int .i32 0, .int .u16 0, .int .u16 0, .slice none 0 0] 54)) w.heap.size 51 #[.int .u16 age, .int .u8 opts, .int .u8 3, .int .u32 id, .int .u32 adv, .int .i32 seq, .int .u16 0, .int .u16 0] := ((Blk.new _ _ _).alloc _).alloc _
  have g1 : Blk (((w.alloc (.cells #[.int .u16 age, .int .u8 opts, .int .u8 3, .int .u32 id, .int .u32 adv, .int .i32 seq, .int .u16 0, .int .u16 0] 51)).alloc (.cells #[.int .u8 0, .slice none 0 0, .int .u32 m, .slice none 0 0, .int .u32 k, .bool false, .int .u32 0, .int .u32 0, .slice none 0 0] 93)).alloc (.cells #[.int .u16 0, .int .u8 0, .int .u8 0, .int .u32 0, .int .u32 0, .int .i32 0, .int .u16 0, .int .u16 0, .slice none 0 0] 54)) (w.heap.size + 1) 93 #[.int .u8 0, .slice none 0 0, .int .u32 m, .slice none 0 0, .int .u32 k, .bool false, .int .u32 0, .int .u32 0, .slice none 0 0] := (Blk.new_ _ (by simp)).alloc _
  have g2 : Blk (((w.alloc (.cells #[.int .u16 age, .int .u8 opts, .int .u8 3, .int .u32 id, .int .u32 adv, .int .i32 seq, .int .u16 0, .int .u16 0] 51)).alloc (.cells #[.int .u8 0, .slice none 0 0, .int .u32 m, .slice none 0 0, .int .u32 k, .bool false, .int .u32 0, .int .u32 0, .slice none 0 0] 93)).alloc (.cells #[.int .u16 0, .int .u8 0, .int .u8 0, .int .u32 0, .int .u32 0, .int .i32 0, .int .u16 0, .int .u16 0, .slice none 0 0] 54)) (w.heap.size + 1 + 1) 54 #[.int .u16 0, .int .u8 0, .int .u8 0, .int .u32 0, .int .u32 0, .int .i32 0, .int .u16 0, .int .u16 0, .slice none 0 0] := Blk.new_ _ (by simp)
  have gB : Below w.heap.size w (((w.alloc (.cells #[.int .u16 age, .int .u8 opts, .int .u8 3, .int .u32 id, .int .u32 adv, .int .i32 seq, .int .u16 0, .int .u16 0] 51)).alloc (.cells #[.int .u8 0, .slice none 0 0, .int .u32 m, .slice none 0 0, .int .u32 k, .bool false, .int .u32 0, .int .u32 0, .slice none 0 0] 93)).alloc (.cells #[.int .u16 0, .int .u8 0, .int .u8 0, .int .u32 0, .int .u32 0, .int .i32 0, .int .u16 0, .int .u16 0, .slice none 0 0] 54)) := (((Below.refl _ _).alloc (Nat.le_refl _) _).alloc (by simp) _).alloc (by simp; omega) _
  have hbl : (beN m 4 ++ beN k 4).length = 8 := rfl
  have hb8 : ∀ x ∈ beN m 4 ++ beN k 4, 0 ≤ x ∧ x < 256 := fun x hx => by
    simp only [List.mem_append] at hx
    rcases hx with hx | hx
    all_goals exact beN_byt _ _ x hx
  have CL := Lib.hid (fun W => lay3 m k hm0 hk0 W)
  have CM := Lib.hid (fun W => rmay3 m k n hmm hkk W)
  have CZ := Lib.hid (fun W => size3 m k false 0 0 W)
  have CK := Lib.hid (fun W => known3 W)
  have CS := fun (A : Option Addr) (c : Nat) W (ho : W.ownsRow (w.heap.size + 1 + 1 + 1) 5 1 (.slice A 8 c) 8 ((beN m 4 ++ beN k 4).map u8c)) => seal_any (encH3 age opts id adv seq) ok W.heap.size (.slice A 8 c) (beN m 4 ++ beN k 4) W (Sl.of_own ho) (Nat.le_refl _) (by rw [hbl]; omega) hb8
  generalize beN m 4 ++ beN k 4 = L at CL CS hbl ⊢
  rw [hbl] at CS
  dsimp only [stateVal, encH3] at CS ⊢
  simp only [show (20 + ((8 : Nat) : Int)) = 28 from rfl] at CS
  replace CS := Lib.hid CS
  clear hb8 hbl ok hmm hkk
  dsimp only [numC] at *
  go_enter Tryz.func91, Tryz.ntmps91
  go_upto_region 1 with fail
  generalize ((w.alloc (.cells #[.int .u16 age, .int .u8 opts, .int .u8 3, .int .u32 id, .int .u32 adv, .int .i32 seq, .int .u16 0, .int .u16 0] 51)).alloc (.cells #[.int .u8 0, .slice none 0 0, .int .u32 m, .slice none 0 0, .int .u32 k, .bool false, .int .u32 0, .int .u32 0, .slice none 0 0] 93)).alloc (.cells #[.int .u16 0, .int .u8 0, .int .u8 0, .int .u32 0, .int .u32 0, .int .i32 0, .int .u16 0, .int .u16 0, .slice none 0 0] 54) = w0 at g0 g1 g2 gB ⊢
  have x2 := g0.cell 2
  simp only [List.getElem?_toArray, List.getElem?_cons_zero, List.getElem?_cons_succ] at x2
  go_upto_region 3 with (go_at_call 77; refine Calls.mono (CK.out _) ?_; rintro x w1 ⟨rfl, rfl⟩)
  go_upto_region 5 with (first
    | (refine wpList_load_row rfl 93 (.tmp 3) rfl (w.heap.size + 1) rfl 93 #[.int .u8 0, .slice none 0 0, .int .u32 m, .slice none 0 0, .int .u32 k, .bool false, .int .u32 0, .int .u32 0, .slice none 0 0] (0, 0) _ g1 Tryz.underlying93 rfl (by kernel_rfl) ?_)
    | (go_at_call 87; refine Calls.mono (CM.out _) ?_; rintro x w2 ⟨rfl, k2⟩))
  have p0 := g0.below k2 g0.lt
  have p1 := g1.below k2 g1.lt
  have p2 := g2.below k2 g2.lt
  have pB := gB.trans (k2.mono gB.size)
  clear g0 g1 g2 gB k2 x2
  have x2 := p0.cell 2
  simp only [List.getElem?_toArray, List.getElem?_cons_zero, List.getElem?_cons_succ] at x2
  go_upto_region 7 with (first
    | (refine wpList_load_row rfl 93 (.tmp 3) rfl (w.heap.size + 1) rfl 93 #[.int .u8 0, .slice none 0 0, .int .u32 m, .slice none 0 0, .int .u32 k, .bool false, .int .u32 0, .int .u32 0, .slice none 0 0] (0, 0) _ p1 Tryz.underlying93 rfl (by kernel_rfl) ?_)
    | (go_at_call 134; refine Calls.mono (CZ.out _) ?_; rintro x w3 ⟨rfl, k3⟩))
  have q0 := p0.below k3 p0.lt
  have q1 := p1.below k3 p1.lt
  have q2 := p2.below k3 p2.lt
  have qB := pB.trans (k3.mono pB.size)
  clear p0 p1 p2 pB k3 x2
  have a0 : ∀ W, Below (w.heap.size + 1 + 1) w3 W → W.cell? ⟨w.heap.size, 0, none⟩ = some (.int .u16 age) := fun W h => (h.cell (p := ⟨w.heap.size, 0, none⟩) (by show w.heap.size < w.heap.size + 1 + 1; omega)).trans (q0.cell 0)
  have a1 : ∀ W, Below (w.heap.size + 1 + 1) w3 W → W.cell? ⟨w.heap.size, 1, none⟩ = some (.int .u8 opts) := fun W h => (h.cell (p := ⟨w.heap.size, 1, none⟩) (by show w.heap.size < w.heap.size + 1 + 1; omega)).trans (q0.cell 1)
  have a2 : ∀ W, Below (w.heap.size + 1 + 1) w3 W → W.cell? ⟨w.heap.size, 2, none⟩ = some (.int .u8 3) := fun W h => (h.cell (p := ⟨w.heap.size, 2, none⟩) (by show w.heap.size < w.heap.size + 1 + 1; omega)).trans (q0.cell 2)
  have a3 : ∀ W, Below (w.heap.size + 1 + 1) w3 W → W.cell? ⟨w.heap.size, 3, none⟩ = some (.int .u32 id) := fun W h => (h.cell (p := ⟨w.heap.size, 3, none⟩) (by show w.heap.size < w.heap.size + 1 + 1; omega)).trans (q0.cell 3)
  have a4 : ∀ W, Below (w.heap.size + 1 + 1) w3 W → W.cell? ⟨w.heap.size, 4, none⟩ = some (.int .u32 adv) := fun W h => (h.cell (p := ⟨w.heap.size, 4, none⟩) (by show w.heap.size < w.heap.size + 1 + 1; omega)).trans (q0.cell 4)
  have a5 : ∀ W, Below (w.heap.size + 1 + 1) w3 W → W.cell? ⟨w.heap.size, 5, none⟩ = some (.int .i32 seq) := fun W h => (h.cell (p := ⟨w.heap.size, 5, none⟩) (by show w.heap.size < w.heap.size + 1 + 1; omega)).trans (q0.cell 5)
  have a6 : ∀ W, Below (w.heap.size + 1 + 1) w3 W → W.cell? ⟨w.heap.size, 6, none⟩ = some (.int .u16 0) := fun W h => (h.cell (p := ⟨w.heap.size, 6, none⟩) (by show w.heap.size < w.heap.size + 1 + 1; omega)).trans (q0.cell 6)
  have a7 : ∀ W, Below (w.heap.size + 1 + 1) w3 W → W.cell? ⟨w.heap.size, 7, none⟩ = some (.int .u16 0) := fun W h => (h.cell (p := ⟨w.heap.size, 7, none⟩) (by show w.heap.size < w.heap.size + 1 + 1; omega)).trans (q0.cell 7)
  have b0 : ∀ W, Below (w.heap.size + 1 + 1) w3 W → W.cell? ⟨w.heap.size + 1, 0, none⟩ = some (.int .u8 0) := fun W h => (h.cell (p := ⟨w.heap.size + 1, 0, none⟩) (by show w.heap.size + 1 < w.heap.size + 1 + 1; omega)).trans (q1.cell 0)
  have b1 : ∀ W, Below (w.heap.size + 1 + 1) w3 W → W.cell? ⟨w.heap.size + 1, 1, none⟩ = some (.slice none 0 0) := fun W h => (h.cell (p := ⟨w.heap.size + 1, 1, none⟩) (by show w.heap.size + 1 < w.heap.size + 1 + 1; omega)).trans (q1.cell 1)
  have b2 : ∀ W, Below (w.heap.size + 1 + 1) w3 W → W.cell? ⟨w.heap.size + 1, 2, none⟩ = some (.int .u32 m) := fun W h => (h.cell (p := ⟨w.heap.size + 1, 2, none⟩) (by show w.heap.size + 1 < w.heap.size + 1 + 1; omega)).trans (q1.cell 2)
  have b3 : ∀ W, Below (w.heap.size + 1 + 1) w3 W → W.cell? ⟨w.heap.size + 1, 3, none⟩ = some (.slice none 0 0) := fun W h => (h.cell (p := ⟨w.heap.size + 1, 3, none⟩) (by show w.heap.size + 1 < w.heap.size + 1 + 1; omega)).trans (q1.cell 3)
  have b4 : ∀ W, Below (w.heap.size + 1 + 1) w3 W → W.cell? ⟨w.heap.size + 1, 4, none⟩ = some (.int .u32 k) := fun W h => (h.cell (p := ⟨w.heap.size + 1, 4, none⟩) (by show w.heap.size + 1 < w.heap.size + 1 + 1; omega)).trans (q1.cell 4)
  have b5 : ∀ W, Below (w.heap.size + 1 + 1) w3 W → W.cell? ⟨w.heap.size + 1, 5, none⟩ = some (.bool false) := fun W h => (h.cell (p := ⟨w.heap.size + 1, 5, none⟩) (by show w.heap.size + 1 < w.heap.size + 1 + 1; omega)).trans (q1.cell 5)
  have b6 : ∀ W, Below (w.heap.size + 1 + 1) w3 W → W.cell? ⟨w.heap.size + 1, 6, none⟩ = some (.int .u32 0) := fun W h => (h.cell (p := ⟨w.heap.size + 1, 6, none⟩) (by show w.heap.size + 1 < w.heap.size + 1 + 1; omega)).trans (q1.cell 6)
  have b7 : ∀ W, Below (w.heap.size + 1 + 1) w3 W → W.cell? ⟨w.heap.size + 1, 7, none⟩ = some (.int .u32 0) := fun W h => (h.cell (p := ⟨w.heap.size + 1, 7, none⟩) (by show w.heap.size + 1 < w.heap.size + 1 + 1; omega)).trans (q1.cell 7)
  have b8 : ∀ W, Below (w.heap.size + 1 + 1) w3 W → W.cell? ⟨w.heap.size + 1, 8, none⟩ = some (.slice none 0 0) := fun W h => (h.cell (p := ⟨w.heap.size + 1, 8, none⟩) (by show w.heap.size + 1 < w.heap.size + 1 + 1; omega)).trans (q1.cell 8)
  have hz := q2.lt
  have Q2 := Lib.hid q2
  have QB := Lib.hid qB
  clear q0 q1 q2 qB
  go_region_held3 (fun W => Below (w.heap.size + 1 + 1) w3 W) (first | assumption | exact (Below.refl _ _).drew | exact Below.refl _ _ | exact HS4.mono (by omega) | exact HS5.mono (by omega) | exact pW6.below (HS5.mono (by omega)) (by omega) | fail)
    (first
      | (go_at_call 88; have C := CL.out w3.drew; (with_reducible refine Calls.mono C ?_); clear C; rintro x w4 ⟨s, rfl, ho4, k4⟩; have HS4 := below_call (B := w.heap.size + 1 + 1 + 1) (a := w3) (by first | assumption | exact (Below.refl _ _).drew | exact Below.refl _ _) k4 (by omega); have HO4 := own_less ho4 (show w.heap.size + 1 + 1 + 1 ≤ w3.drew.heap.size by show _ ≤ w3.heap.size; omega); obtain ⟨-, A4, c4, rfl, -⟩ := Sl.of_own HO4; replace HO4 := Lib.hid HO4; clear ho4 k4)
      | (go_at_call 22; have C := CS.out _ _ _ HO4.out; (with_reducible refine Calls.mono C ?_); clear C; rintro x w5 ⟨v, r, rfl, hr, ho5, k5⟩; obtain ⟨-, A5, c5, rfl, -⟩ := Sl.of_own ho5; have HS5 := below_call HS4 k5 (by omega); have HZ4 := HS4.size; replace HO5 := Lib.hid (own_less ho5 (show w.heap.size + 1 + 1 + 1 ≤ _ by omega)); clear ho5 k5 a0 a1 a2 a3 a4 a5 a6 a7 b0 b1 b2 b3 b4 b5 b6 b7 b8)
      | (have _q := HO5; refine upon9 (t := 54) (x0 := .int .u16 0) (x1 := .int .u8 0) (x2 := .int .u8 0) (x3 := .int .u32 0) (x4 := .int .u32 0) (x5 := .int .i32 0) (x6 := .int .u16 0) (x7 := .int .u16 0) (x8 := .slice none 0 0) ?_ _ _ _ _ _ _ _ _ _ ?_; (focus (exact Q2.out.below HS5 (by omega))); intro W6 kW6 pW6)
      | fail)
  all_goals
    go_wp2
    have QZ := QB.out
    have HZ5 := HS5.size
    refine bodyPost_ret (results_cell_tmp_row rfl _ _ (w.heap.size + 1 + 1) 54 _ (0, 0) _ rfl kW6 Tryz.underlying54 rfl (by kernel_rfl)) rfl ?_
    exact ⟨_, r, rfl, hr, own_put pW6 (own_less HO5.out (by omega)) (by decide), pW6.below (QZ.trans (HS5.mono (by omega))) (by omega)⟩

/-- the head that Encode is handed -/
abbrev encH5 (age opts id adv seq : Int) : OHead := ⟨age, opts, 5, id, adv, seq, 0, 0⟩

set_option maxRecDepth 100000 in
set_option maxHeartbeats 400000 in
theorem encode5 (age opts id adv seq : Int) (ok : HeadOk (encH5 age opts id adv seq)) (m k fw tg : Int) (n : Nat) (hmm : MaskOf m n) (hkk : k ≤ 16777215) (hm0 : 0 ≤ m ∧ m < 4294967296) (hk0 : 0 ≤ k ∧ k < 4294967296) (hf0 : 0 ≤ fw ∧ fw < 4294967296) (ht0 : 0 ≤ tg ∧ tg < 4294967296) (w : World) :
    Calls Tryz.prog 91 #[.agg #[.int .u16 age, .int .u8 opts, .int .u8 5, .int .u32 id, .int .u32 adv, .int .i32 seq, .int .u16 0, .int .u16 0], .agg (numC m k false fw tg)] w fun x w' => ∃ v r, x = .returned (.tuple #[stateVal { encH5 age opts id adv seq with len := 36, sum := r } v, .int .i64 0]) ∧ sealR (encH5 age opts id adv seq) (beN m 4 ++ beN k 4 ++ beN fw 4 ++ beN tg 4) r ∧ w'.ownsRow w.heap.size 5 1 v 16 ((beN m 4 ++ beN k 4 ++ beN fw 4 ++ beN tg 4).map u8c) ∧ Below w.heap.size w w' := by
  have g0 : Blk (((w.alloc (.cells #[.int .u16 age, .int .u8 opts, .int .u8 5, .int .u32 id, .int .u32 adv, .int .i32 seq, .int .u16 0, .int .u16 0] 51)).alloc (.cells #[.int .u8 0, .slice none 0 0, .int .u32 m, .slice none 0 0, .int .u32 k, .bool false, .int .u32 fw, .int .u32 tg, .slice none 0 0] 93)).alloc (.cells #[.int .u16 0, .int .u8 0, .int .u8 0, .int .u32 0, .int .u32 0, .int .i32 0, .int .u16 0, .int .u16 0, .slice none 0 0] 54)) w.heap.size 51 #[.int .u16 age, .int .u8 opts, .int .u8 5, .int .u32 id, .int .u32 adv, .int .i32 seq, .int .u16 0, .int .u16 0] := ((Blk.new _ _ _).alloc _).alloc _
  have g1 : Blk (((w.alloc (.cells #[.int .u16 age, .int .u8 opts, .int .u8 5, .int .u32 id, .int .u32 adv, .int .i32 seq, .int .u16 0, .int .u16 0] 51)).alloc (.cells #[.int .u8 0, .slice none 0 0, .int .u32 m, .slice none 0 0, .int .u32 k, .bool false, .int .u32 fw, .int .u32 tg, .slice none 0 0] 93)).alloc (.cells #[.int .u16 0, .int .u8 0, .int .u8 0, .int .u32 0, .int .u32 0, .int .i32 0, .int .u16 0, .int .u16 0, .slice none 0 0] 54)) (w.heap.size + 1) 93 #[.int .u8 0, .slice none 0 0, .int .u32 m, .slice none 0 0, .int .u32 k, .bool false, .int .u32 fw, .int .u32 tg, .slice none 0 0] := (Blk.new_ _ (by simp)).alloc _
  have g2 : Blk (((w.alloc (.cells #[.int .u16 age, .int .u8 opts, .int .u8 5, .int .u32 id, .int .u32 adv, .int .i32 seq, .int .u16 0, .int .u16 0] 51)).alloc (.cells #[.int .u8 0, .slice none 0 0, .int .u32 m, .slice none 0 0, .int .u32 k, .bool false, .int .u32 fw, .int .u32 tg, .slice none 0 0] 93)).alloc (.cells #[.int .u16 0, .int .u8 0, .int .u8 0, .int .u32 0, .int .u32 0, .int .i32 0, .int .u16 0, .int .u16 0, .slice none 0 0] 54)) (w.heap.size + 1 + 1) 54 #[.int .u16 0, .int .u8 0, .int .u8 0, .int .u32 0, .int .u32 0, .int .i32 0, .int .u16 0, .int .u16 0, .slice none 0 0] := Blk.new_ _ (by simp)
  have gB : Below w.heap.size w (((w.alloc (.cells #[.int .u16 age, .int .u8 opts, .int .u8 5, .int .u32 id, .int .u32 adv, .int .i32 seq, .int .u16 0, .int .u16 0] 51)).alloc (.cells #[.int .u8 0, .slice none 0 0, .int .u32 m, .slice none 0 0, .int .u32 k, .bool false, .int .u32 fw, .int .u32 tg, .slice none 0 0] 93)).alloc (.cells #[.int .u16 0, .int .u8 0, .int .u8 0, .int .u32 0, .int .u32 0, .int .i32 0, .int .u16 0, .int .u16 0, .slice none 0 0] 54)) := (((Below.refl _ _).alloc (Nat.le_refl _) _).alloc (by simp) _).alloc (by simp; omega) _
  have hbl : (beN m 4 ++ beN k 4 ++ beN fw 4 ++ beN tg 4).length = 16 := rfl
  have hb8 : ∀ x ∈ beN m 4 ++ beN k 4 ++ beN fw 4 ++ beN tg 4, 0 ≤ x ∧ x < 256 := fun x hx => by
    simp only [List.mem_append] at hx
    rcases hx with ((hx | hx) | hx) | hx
    all_goals exact beN_byt _ _ x hx
  have CL := Lib.hid (fun W => lay5 m k fw tg hm0 hk0 hf0 ht0 W)
  have CM := Lib.hid (fun W => rmay5 m k false fw tg n hmm hkk W)
  have CZ := Lib.hid (fun W => size5 m k false fw tg W)
  have CK := Lib.hid (fun W => known5 W)
  have CS := fun (A : Option Addr) (c : Nat) W (ho : W.ownsRow (w.heap.size + 1 + 1 + 1) 5 1 (.slice A 16 c) 16 ((beN m 4 ++ beN k 4 ++ beN fw 4 ++ beN tg 4).map u8c)) => seal_any (encH5 age opts id adv seq) ok W.heap.size (.slice A 16 c) (beN m 4 ++ beN k 4 ++ beN fw 4 ++ beN tg 4) W (Sl.of_own ho) (Nat.le_refl _) (by rw [hbl]; omega) hb8
  generalize beN m 4 ++ beN k 4 ++ beN fw 4 ++ beN tg 4 = L at CL CS hbl ⊢
  rw [hbl] at CS
  dsimp only [stateVal, encH5] at CS ⊢
  simp only [show (20 + ((16 : Nat) : Int)) = 36 from rfl] at CS
  replace CS := Lib.hid CS
  clear hb8 hbl ok hmm hkk
  dsimp only [numC] at *
  go_enter Tryz.func91, Tryz.ntmps91
  go_upto_region 1 with fail
  generalize ((w.alloc (.cells #[.int .u16 age, .int .u8 opts, .int .u8 5, .int .u32 id, .int .u32 adv, .int .i32 seq, .int .u16 0, .int .u16 0] 51)).alloc (.cells #[.int .u8 0, .slice none 0 0, .int .u32 m, .slice none 0 0, .int .u32 k, .bool false, .int .u32 fw, .int .u32 tg, .slice none 0 0] 93)).alloc (.cells #[.int .u16 0, .int .u8 0, .int .u8 0, .int .u32 0, .int .u32 0, .int .i32 0, .int .u16 0, .int .u16 0, .slice none 0 0] 54) = w0 at g0 g1 g2 gB ⊢
  have x2 := g0.cell 2
  simp only [List.getElem?_toArray, List.getElem?_cons_zero, List.getElem?_cons_succ] at x2
  go_upto_region 3 with (go_at_call 77; refine Calls.mono (CK.out _) ?_; rintro x w1 ⟨rfl, rfl⟩)
  go_upto_region 5 with (first
    | (refine wpList_load_row rfl 93 (.tmp 3) rfl (w.heap.size + 1) rfl 93 #[.int .u8 0, .slice none 0 0, .int .u32 m, .slice none 0 0, .int .u32 k, .bool false, .int .u32 fw, .int .u32 tg, .slice none 0 0] (0, 0) _ g1 Tryz.underlying93 rfl (by kernel_rfl) ?_)
    | (go_at_call 87; refine Calls.mono (CM.out _) ?_; rintro x w2 ⟨rfl, k2⟩))
  have p0 := g0.below k2 g0.lt
  have p1 := g1.below k2 g1.lt
  have p2 := g2.below k2 g2.lt
  have pB := gB.trans (k2.mono gB.size)
  clear g0 g1 g2 gB k2 x2
  have x2 := p0.cell 2
  simp only [List.getElem?_toArray, List.getElem?_cons_zero, List.getElem?_cons_succ] at x2
  go_upto_region 7 with (first
    | (refine wpList_load_row rfl 93 (.tmp 3) rfl (w.heap.size + 1) rfl 93 #[.int .u8 0, .slice none 0 0, .int .u32 m, .slice none 0 0, .int .u32 k, .bool false, .int .u32 fw, .int .u32 tg, .slice none 0 0] (0, 0) _ p1 Tryz.underlying93 rfl (by kernel_rfl) ?_)
    | (go_at_call 134; refine Calls.mono (CZ.out _) ?_; rintro x w3 ⟨rfl, k3⟩))
  have q0 := p0.below k3 p0.lt
  have q1 := p1.below k3 p1.lt
  have q2 := p2.below k3 p2.lt
  have qB := pB.trans (k3.mono pB.size)
  clear p0 p1 p2 pB k3 x2
  have a0 : ∀ W, Below (w.heap.size + 1 + 1) w3 W → W.cell? ⟨w.heap.size, 0, none⟩ = some (.int .u16 age) := fun W h => (h.cell (p := ⟨w.heap.size, 0, none⟩) (by show w.heap.size < w.heap.size + 1 + 1; omega)).trans (q0.cell 0)
  have a1 : ∀ W, Below (w.heap.size + 1 + 1) w3 W → W.cell? ⟨w.heap.size, 1, none⟩ = some (.int .u8 opts) := fun W h => (h.cell (p := ⟨w.heap.size, 1, none⟩) (by show w.heap.size < w.heap.size + 1 + 1; omega)).trans (q0.cell 1)
  have a2 : ∀ W, Below (w.heap.size + 1 + 1) w3 W → W.cell? ⟨w.heap.size, 2, none⟩ = some (.int .u8 5) := fun W h => (h.cell (p := ⟨w.heap.size, 2, none⟩) (by show w.heap.size < w.heap.size + 1 + 1; omega)).trans (q0.cell 2)
  have a3 : ∀ W, Below (w.heap.size + 1 + 1) w3 W → W.cell? ⟨w.heap.size, 3, none⟩ = some (.int .u32 id) := fun W h => (h.cell (p := ⟨w.heap.size, 3, none⟩) (by show w.heap.size < w.heap.size + 1 + 1; omega)).trans (q0.cell 3)
  have a4 : ∀ W, Below (w.heap.size + 1 + 1) w3 W → W.cell? ⟨w.heap.size, 4, none⟩ = some (.int .u32 adv) := fun W h => (h.cell (p := ⟨w.heap.size, 4, none⟩) (by show w.heap.size < w.heap.size + 1 + 1; omega)).trans (q0.cell 4)
  have a5 : ∀ W, Below (w.heap.size + 1 + 1) w3 W → W.cell? ⟨w.heap.size, 5, none⟩ = some (.int .i32 seq) := fun W h => (h.cell (p := ⟨w.heap.size, 5, none⟩) (by show w.heap.size < w.heap.size + 1 + 1; omega)).trans (q0.cell 5)
  have a6 : ∀ W, Below (w.heap.size + 1 + 1) w3 W → W.cell? ⟨w.heap.size, 6, none⟩ = some (.int .u16 0) := fun W h => (h.cell (p := ⟨w.heap.size, 6, none⟩) (by show w.heap.size < w.heap.size + 1 + 1; omega)).trans (q0.cell 6)
  have a7 : ∀ W, Below (w.heap.size + 1 + 1) w3 W → W.cell? ⟨w.heap.size, 7, none⟩ = some (.int .u16 0) := fun W h => (h.cell (p := ⟨w.heap.size, 7, none⟩) (by show w.heap.size < w.heap.size + 1 + 1; omega)).trans (q0.cell 7)
  have b0 : ∀ W, Below (w.heap.size + 1 + 1) w3 W → W.cell? ⟨w.heap.size + 1, 0, none⟩ = some (.int .u8 0) := fun W h => (h.cell (p := ⟨w.heap.size + 1, 0, none⟩) (by show w.heap.size + 1 < w.heap.size + 1 + 1; omega)).trans (q1.cell 0)
  have b1 : ∀ W, Below (w.heap.size + 1 + 1) w3 W → W.cell? ⟨w.heap.size + 1, 1, none⟩ = some (.slice none 0 0) := fun W h => (h.cell (p := ⟨w.heap.size + 1, 1, none⟩) (by show w.heap.size + 1 < w.heap.size + 1 + 1; omega)).trans (q1.cell 1)
  have b2 : ∀ W, Below (w.heap.size + 1 + 1) w3 W → W.cell? ⟨w.heap.size + 1, 2, none⟩ = some (.int .u32 m) := fun W h => (h.cell (p := ⟨w.heap.size + 1, 2, none⟩) (by show w.heap.size + 1 < w.heap.size + 1 + 1; omega)).trans (q1.cell 2)
  have b3 : ∀ W, Below (w.heap.size + 1 + 1) w3 W → W.cell? ⟨w.heap.size + 1, 3, none⟩ = some (.slice none 0 0) := fun W h => (h.cell (p := ⟨w.heap.size + 1, 3, none⟩) (by show w.heap.size + 1 < w.heap.size + 1 + 1; omega)).trans (q1.cell 3)
  have b4 : ∀ W, Below (w.heap.size + 1 + 1) w3 W → W.cell? ⟨w.heap.size + 1, 4, none⟩ = some (.int .u32 k) := fun W h => (h.cell (p := ⟨w.heap.size + 1, 4, none⟩) (by show w.heap.size + 1 < w.heap.size + 1 + 1; omega)).trans (q1.cell 4)
  have b5 : ∀ W, Below (w.heap.size + 1 + 1) w3 W → W.cell? ⟨w.heap.size + 1, 5, none⟩ = some (.bool false) := fun W h => (h.cell (p := ⟨w.heap.size + 1, 5, none⟩) (by show w.heap.size + 1 < w.heap.size + 1 + 1; omega)).trans (q1.cell 5)
  have b6 : ∀ W, Below (w.heap.size + 1 + 1) w3 W → W.cell? ⟨w.heap.size + 1, 6, none⟩ = some (.int .u32 fw) := fun W h => (h.cell (p := ⟨w.heap.size + 1, 6, none⟩) (by show w.heap.size + 1 < w.heap.size + 1 + 1; omega)).trans (q1.cell 6)
  have b7 : ∀ W, Below (w.heap.size + 1 + 1) w3 W → W.cell? ⟨w.heap.size + 1, 7, none⟩ = some (.int .u32 tg) := fun W h => (h.cell (p := ⟨w.heap.size + 1, 7, none⟩) (by show w.heap.size + 1 < w.heap.size + 1 + 1; omega)).trans (q1.cell 7)
  have b8 : ∀ W, Below (w.heap.size + 1 + 1) w3 W → W.cell? ⟨w.heap.size + 1, 8, none⟩ = some (.slice none 0 0) := fun W h => (h.cell (p := ⟨w.heap.size + 1, 8, none⟩) (by show w.heap.size + 1 < w.heap.size + 1 + 1; omega)).trans (q1.cell 8)
  have hz := q2.lt
  have Q2 := Lib.hid q2
  have QB := Lib.hid qB
  clear q0 q1 q2 qB
  go_region_held3 (fun W => Below (w.heap.size + 1 + 1) w3 W) (first | assumption | exact (Below.refl _ _).drew | exact Below.refl _ _ | exact HS4.mono (by omega) | exact HS5.mono (by omega) | exact pW6.below (HS5.mono (by omega)) (by omega) | fail)
    (first
      | (go_at_call 88; have C := CL.out w3.drew; (with_reducible refine Calls.mono C ?_); clear C; rintro x w4 ⟨s, rfl, ho4, k4⟩; have HS4 := below_call (B := w.heap.size + 1 + 1 + 1) (a := w3) (by first | assumption | exact (Below.refl _ _).drew | exact Below.refl _ _) k4 (by omega); have HO4 := own_less ho4 (show w.heap.size + 1 + 1 + 1 ≤ w3.drew.heap.size by show _ ≤ w3.heap.size; omega); obtain ⟨-, A4, c4, rfl, -⟩ := Sl.of_own HO4; replace HO4 := Lib.hid HO4; clear ho4 k4)
      | (go_at_call 22; have C := CS.out _ _ _ HO4.out; (with_reducible refine Calls.mono C ?_); clear C; rintro x w5 ⟨v, r, rfl, hr, ho5, k5⟩; obtain ⟨-, A5, c5, rfl, -⟩ := Sl.of_own ho5; have HS5 := below_call HS4 k5 (by omega); have HZ4 := HS4.size; replace HO5 := Lib.hid (own_less ho5 (show w.heap.size + 1 + 1 + 1 ≤ _ by omega)); clear ho5 k5 a0 a1 a2 a3 a4 a5 a6 a7 b0 b1 b2 b3 b4 b5 b6 b7 b8)
      | (have _q := HO5; refine upon9 (t := 54) (x0 := .int .u16 0) (x1 := .int .u8 0) (x2 := .int .u8 0) (x3 := .int .u32 0) (x4 := .int .u32 0) (x5 := .int .i32 0) (x6 := .int .u16 0) (x7 := .int .u16 0) (x8 := .slice none 0 0) ?_ _ _ _ _ _ _ _ _ _ ?_; (focus (exact Q2.out.below HS5 (by omega))); intro W6 kW6 pW6)
      | fail)
  all_goals
    go_wp2
    have QZ := QB.out
    have HZ5 := HS5.size
    refine bodyPost_ret (results_cell_tmp_row rfl _ _ (w.heap.size + 1 + 1) 54 _ (0, 0) _ rfl kW6 Tryz.underlying54 rfl (by kernel_rfl)) rfl ?_
    exact ⟨_, r, rfl, hr, own_put pW6 (own_less HO5.out (by omega)) (by decide), pW6.below (QZ.trans (HS5.mono (by omega))) (by omega)⟩
end Go.Proofs.YtiikagabdiphkaaGreat
