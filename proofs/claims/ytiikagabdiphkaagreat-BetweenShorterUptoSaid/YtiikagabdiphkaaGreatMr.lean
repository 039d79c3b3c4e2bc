/- The known run of layer 19. -/
import Derived.Test.YtiikagabdiphkaaGreatMq
import Derived.Test.YtiikagabdiphkaaGreatMg
namespace Go.Proofs.YtiikagabdiphkaaGreat
open Go.RowKit Go.Lo

def body19 : List Int := [255, 255, 0, 0, 0, 0, 0, 4]
abbrev head19 : OHead := ⟨0, 0, 3, 167903232, 2, 1, 36160, 28⟩
theorem headOk19 : HeadOk head19 := ⟨by decide, by decide, by decide, by decide, by decide, by decide, by decide, by decide⟩
theorem headOk19z : HeadOk (encH3 0 0 167903232 2 1) := ⟨by decide, by decide, by decide, by decide, by decide, by decide, by decide, by decide⟩
theorem body19_eq : beN 4294901760 4 ++ beN 4 4 = body19 := by decide

theorem seal19 (r : Int) (h : sealR (encH3 0 0 167903232 2 1) body19 r) : r = 36160 := by
  unfold sealR at h
  have e1 : sumsTo (sealB (encH3 0 0 167903232 2 1) body19) 14 (sealB (encH3 0 0 167903232 2 1) body19).length = (50, 154) := by decide
  have e2 : ((((sealB (encH3 0 0 167903232 2 1) body19).length : Int) - 14) % 255) = 12 := by decide
  rw [e1, e2] at h
  rcases h with ⟨x, y, h1, h2, h3, h4, ⟨h5, h6⟩, rfl⟩ | ⟨-, hno⟩
  · simp only at h5 h6
    omega
  · exact absurd (show hitP (50, 154) 12 141 64 from ⟨by decide, by decide⟩) (hno 141 64 (by decide) (by decide) (by decide) (by decide))

theorem whole19 : wholeB ((headB head19 ++ body19).drop 2) = true := by
  unfold wholeB
  rw [addP_short _ _ (by decide) (by decide)]
  decide
theorem dec19 : decP 3 body19 = (4294901760, 4, 0) := by decide
theorem chk19 : chkP head19 body19 0 = 0 := by
  unfold chkP
  rw [whole19]
  decide

abbrev rout19 : WayG := (⟨0, 0, 2, 1, 1, 0, 3, 0, 0⟩, [(5, 2, false)])
theorem lead19 : leadP head19 body19 1 [rout19] = some (⟨167903232, 16, 0, 0, 2, 0, 7, 0, 0⟩, [(5, 2, false)]) := by
  have ht : takes head19 body19 1 3 = true := by
    unfold takes
    rw [dec19, chk19]
    decide
  have hb : bits BinOp.and IntKind.u32 167903232 4294901760 = 167903232 := by decide
  have hv : bitsV 4294901760 = 16 := by decide
  have hof : ([rout19].find? fun r => ofP head19.adv r.1) = some rout19 := by decide
  unfold leadP leadT
  rw [if_pos rfl, if_neg (by rw [ht]; decide), hof]
  simp only [dec19, hb, hv]
  rw [if_neg (by decide), if_neg (by decide)]
  rfl
theorem leads19 : leadsP [(head19, body19)] 1 [rout19] = [(⟨167903232, 16, 0, 0, 2, 0, 7, 0, 0⟩, [(5, 2, false)])] := by
  unfold leadsP
  simp only [List.filterMap_cons, List.filterMap_nil, lead19]

set_option maxRecDepth 100000 in
set_option maxHeartbeats 1000000 in
theorem one19_any (w : World) : Calls Tryz.prog 50 #[] w fun x w' => ∃ (g A c : Nat), x = .returned (.slice (some ⟨g, 0, none⟩) 1 1) ∧ StatesIn w' w'.heap.size (.slice (some ⟨g, 0, none⟩) 1 1) [(head19, body19)] [⟨head19, some ⟨A, 0, none⟩, 8, c⟩] ∧ Below w.heap.size w w' := by
  have CE := fun W => encode3 0 0 167903232 2 1 headOk19z 4294901760 4 16 maskOf16 (by decide) (by decide) (by decide) W
  rw [body19_eq] at CE
  replace CE := Lib.hid CE
  go_enter Tryz.func50, Tryz.ntmps50
  go_upto_region 2 with (first
    | (go_at_call 91; refine Calls.mono (CE.out _) ?_; rintro x w1 ⟨v, r, rfl, hr, ho, hB1⟩; obtain rfl := seal19 r hr; obtain ⟨A, c, rfl, -, -⟩ := ho.form (by decide))
    | fail)
  have k0 : Blk (w1.alloc (.cells (stL ⟨head19, some ⟨A, 0, none⟩, 8, c⟩).toArray 54)) w1.heap.size 54 (stL ⟨head19, some ⟨A, 0, none⟩, 8, c⟩).toArray := Blk.new _ _ _
  have kB : Below w1.heap.size w1 (w1.alloc (.cells (stL ⟨head19, some ⟨A, 0, none⟩, 8, c⟩).toArray 54)) := (Below.refl _ _).alloc (Nat.le_refl _) _
  have hz : (w1.alloc (.cells (stL ⟨head19, some ⟨A, 0, none⟩, 8, c⟩).toArray 54)).heap.size = w1.heap.size + 1 := by simp
  dsimp only [stL] at k0 kB hz
  dsimp only [stateVal]
  generalize w1.alloc (.cells #[.int .u16 0, .int .u8 0, .int .u8 3, .int .u32 167903232, .int .u32 2, .int .i32 1, .int .u16 36160, .int .u16 28, .slice (some ⟨A, 0, none⟩) 8 c] 54) = w2 at k0 kB hz ⊢
  have hz1 := hB1.size
  have hs := (Sl.of_own ho).below kB
  clear ho
  replace hz := Lib.hid hz
  go_wp2_with (refine wpList_load_row rfl 54 (.tmp 1) rfl w1.heap.size rfl 54 #[.int .u16 0, .int .u8 0, .int .u8 3, .int .u32 167903232, .int .u32 2, .int .i32 1, .int .u16 36160, .int .u16 28, .slice (some ⟨A, 0, none⟩) 8 c] (0, 0) _ k0 Tryz.underlying54 rfl (by kernel_rfl) ?_)
  go_ret
  have hz2 := hz.out
  have hsl := Sl.lit w2 (n := 1) (s := 9) (stL ⟨head19, some ⟨A, 0, none⟩, 8, c⟩).toArray 54 (by simp [maxLen]) rfl
  refine ⟨w2.heap.size, A, c, rfl, ⟨hsl.more (by simp), rfl, fun k h h2 => ?_⟩, hB1.trans ((kB.mono hz1).alloc (by omega) _)⟩
  obtain rfl : k = 0 := by simp at h; omega
  exact (hs.alloc (by omega) _).more (by simp; omega)
end Go.Proofs.YtiikagabdiphkaaGreat
namespace Go.Proofs.YtiikagabdiphkaaGreat
open Go.RowKit Go.Lo

theorem WaysIn.more {w : World} {B B' : Nat} {lv : Value} {R : List WayG} {l : List WayV} (h : WaysIn w B lv R l) (hB : B ≤ B') : WaysIn w B' lv R l := ⟨h.sl.more hB, h.map, fun k h1 h2 => (h.hops k h1 h2).more hB⟩
theorem bestF_one (g : WayG) (k : K3) : bestF [g] k = if k = keyG g.1 then some g else none := by
  unfold bestF
  simp only [List.foldl_cons, List.foldl_nil]
  split
  · rfl
  · rfl
theorem out_one {out : List WayY} {g : WayG} (hnd : (out.map fun x => keyG x.1.n).Nodup) (hf : ∀ x ∈ out, bestF [g] (keyG x.1.n) = some (x.1.n, x.2)) (hall : ∀ k g', bestF [g] k = some g' → ∃ x ∈ out, keyG x.1.n = k) : ∃ x, out = [x] ∧ (x.1.n, x.2) = g := by
  have hk : ∀ x ∈ out, keyG x.1.n = keyG g.1 ∧ (x.1.n, x.2) = g := fun x hx => by
    have h1 := hf x hx
    rw [bestF_one] at h1
    split at h1
    · rename_i h2
      simp only [Option.some.injEq] at h1
      exact ⟨h2, h1.symm⟩
    · cases h1
  obtain ⟨x, hx, -⟩ := hall (keyG g.1) g (by rw [bestF_one, if_pos rfl])
  cases out with
  | nil => cases hx
  | cons a r =>
    cases r with
    | nil => exact ⟨a, rfl, (hk a (by simp)).2⟩
    | cons b r =>
      exfalso
      simp only [List.map_cons, List.nodup_cons, List.mem_cons] at hnd
      exact hnd.1 (.inl (by rw [(hk a (by simp)).1, (hk b (by simp)).1]))

abbrev got19 : WayG := (⟨167903232, 16, 0, 0, 2, 0, 7, 0, 0⟩, [(5, 2, false)])
theorem imp19 : improveP (bestF [got19]) (⟨167903232, 16, 0, 0, 2, 0, 9, 0, 0⟩, []) = (⟨167903232, 16, 0, 0, 2, 0, 7, 0, 0⟩, puts (puts [] []) [(5, 2, false)]) := by
  unfold improveP
  rw [bestF_one]
  rfl
theorem stOk19 : ∀ x ∈ [((head19, body19) : StG)], StOk x := fun x hx => by
  rw [List.mem_singleton.1 hx]
  exact ⟨headOk19, by decide, by decide⟩
theorem wysOk19 : WysOk [rout19] := ⟨fun r hr => by rw [List.mem_singleton.1 hr]; decide, fun r hr => by rw [List.mem_singleton.1 hr]; decide, by decide⟩

set_option maxRecDepth 100000 in
set_option maxHeartbeats 4000000 in
theorem works19_any (w : World) : Calls Tryz.prog 16 #[] w fun e w' => e = .returned (.bool true) ∧ Below w.heap.size w w' := by
  have hB0 : Below w.heap.size w ((w.alloc (.cells #[.int .u32 5, .int .u32 2, .bool false] 47)).alloc (.cells #[.int .u32 0, .int .u8 0, .int .u32 2, .int .u8 1, .int .u8 1, .int .u32 0, .int .u32 3, .int .u32 0, .int .u32 0, .slice (some ⟨w.heap.size, 0, none⟩) 1 1] 38)) := ((Below.refl _ _).alloc (Nat.le_refl _) _).alloc (by simp) _
  have hz0 : (((w.alloc (.cells #[.int .u32 5, .int .u32 2, .bool false] 47)).alloc (.cells #[.int .u32 0, .int .u8 0, .int .u32 2, .int .u8 1, .int .u8 1, .int .u32 0, .int .u32 3, .int .u32 0, .int .u32 0, .slice (some ⟨w.heap.size, 0, none⟩) 1 1] 38)) : World).heap.size = w.heap.size + 1 + 1 := by simp
  have hs0 : Sl ((w.alloc (.cells #[.int .u32 5, .int .u32 2, .bool false] 47)).alloc (.cells #[.int .u32 0, .int .u8 0, .int .u32 2, .int .u8 1, .int .u8 1, .int .u32 0, .int .u32 3, .int .u32 0, .int .u32 0, .slice (some ⟨w.heap.size, 0, none⟩) 1 1] 38)) (w.heap.size + 1 + 1) 3 (.slice (some ⟨w.heap.size, 0, none⟩) 1 1) 1 [.int .u32 5, .int .u32 2, .bool false] := ((Sl.lit w #[.int .u32 5, .int .u32 2, .bool false] 47 (by simp [maxLen]) rfl).alloc (by simp) _).more (by omega)
  have hs1 : Sl ((w.alloc (.cells #[.int .u32 5, .int .u32 2, .bool false] 47)).alloc (.cells #[.int .u32 0, .int .u8 0, .int .u32 2, .int .u8 1, .int .u8 1, .int .u32 0, .int .u32 3, .int .u32 0, .int .u32 0, .slice (some ⟨w.heap.size, 0, none⟩) 1 1] 38)) (w.heap.size + 1 + 1) 10 (.slice (some ⟨w.heap.size + 1, 0, none⟩) 1 1) 1 [.int .u32 0, .int .u8 0, .int .u32 2, .int .u8 1, .int .u8 1, .int .u32 0, .int .u32 3, .int .u32 0, .int .u32 0, .slice (some ⟨w.heap.size, 0, none⟩) 1 1] := by
    have := Sl.lit (w.alloc (.cells #[.int .u32 5, .int .u32 2, .bool false] 47)) (n := 1) (s := 10) #[.int .u32 0, .int .u8 0, .int .u32 2, .int .u8 1, .int .u8 1, .int .u32 0, .int .u32 3, .int .u32 0, .int .u32 0, .slice (some ⟨w.heap.size, 0, none⟩) 1 1] 38 (by simp [maxLen]) rfl
    simpa using this
  go_enter Tryz.func16, Tryz.ntmps16
  go_upto_region 2 with fail
  generalize ((w.alloc (.cells #[.int .u32 5, .int .u32 2, .bool false] 47)).alloc (.cells #[.int .u32 0, .int .u8 0, .int .u32 2, .int .u8 1, .int .u8 1, .int .u32 0, .int .u32 3, .int .u32 0, .int .u32 0, .slice (some ⟨w.heap.size, 0, none⟩) 1 1] 38)) = w0 at *
  have hW0 : WaysIn w0 (w.heap.size + 1 + 1) (.slice (some ⟨w.heap.size + 1, 0, none⟩) 1 1) [rout19] [⟨⟨0, 0, 2, 1, 1, 0, 3, 0, 0⟩, some ⟨w.heap.size, 0, none⟩, 1, 1⟩] := ⟨hs1, rfl, fun k h h2 => by
    obtain rfl : k = 0 := by simp at h; omega
    exact hs0⟩
  clear hs0 hs1
  replace hz0 := Lib.hid hz0
  replace hW0 := Lib.hid hW0
  go_upto_region 3 with (first
    | (go_at_call 50; refine Calls.mono (one19_any _) ?_; rintro e w1 ⟨gs, A1, c1, rfl, hS1, hB1⟩; have CRo := Lib.hid (routes_any 1 w1.heap.size (some ⟨gs, 0, none⟩) 1 [(head19, body19)] [⟨head19, some ⟨A1, 0, none⟩, 8, c1⟩] 0 1 (some ⟨w.heap.size + 1, 0, none⟩) 1 [rout19] [⟨⟨0, 0, 2, 1, 1, 0, 3, 0, 0⟩, some ⟨w.heap.size, 0, none⟩, 1, 1⟩] w1 (fun r hr => by rw [List.mem_singleton.1 hr]; decide) (by decide) (by decide) hS1 stOk19 ((hW0.out.below (hB1.mono (Nat.le_of_eq hz0.out.symm))).more (by have h1 := hz0.out; have h2 := hB1.size; omega)) wysOk19 (Nat.le_refl _)))
    | (go_at_call 20; refine Calls.mono CRo.out ?_; rintro e w2 ⟨nv, bv, out, rfl, hT, -, hnd, hf, hall, -⟩))
  rw [leads19] at hf hall
  obtain ⟨⟨⟨xn, xA, xl, xc⟩, xh⟩, rfl, hx⟩ := out_one hnd hf hall
  simp only [Prod.mk.injEq] at hx
  obtain ⟨rfl, rfl⟩ := hx
  clear hnd hf hall CRo hS1
  have hon : w2.ownsRow w1.heap.size 38 10 nv 1 (wayL ⟨⟨167903232, 16, 0, 0, 2, 0, 7, 0, 0⟩, xA, xl, xc⟩) := hT.fst
  have hob : w2.ownsRow w1.heap.size 38 10 bv 0 [] := hT.snd
  have hB2 := hT.below
  clear hT
  obtain ⟨gn, capn, rfl, -, -⟩ := hon.form (by decide)
  obtain ⟨-, bA, bc, rfl, -⟩ := Sl.of_own hob
  clear hob
  have hB02 : Below w0.heap.size w0 w2 := hB1.trans (hB2.mono hB1.size)
  have hB3 : Below w2.heap.size w2 (w2.alloc (.cells #[.int .u32 167903232, .int .u8 16, .int .u32 0, .int .u8 0, .int .u8 2, .int .u32 0, .int .u32 9, .int .u32 0, .int .u32 0, .slice none 0 0] 38)) := Below.alloc (Below.refl _ _) (Nat.le_refl _) _
  have hz3 : (w2.alloc (.cells #[.int .u32 167903232, .int .u8 16, .int .u32 0, .int .u8 0, .int .u8 2, .int .u32 0, .int .u32 9, .int .u32 0, .int .u32 0, .slice none 0 0] 38)).heap.size = w2.heap.size + 1 := by simp
  have hW3 : WaysIn (w2.alloc (.cells #[.int .u32 167903232, .int .u8 16, .int .u32 0, .int .u8 0, .int .u8 2, .int .u32 0, .int .u32 9, .int .u32 0, .int .u32 0, .slice none 0 0] 38)) (w2.heap.size + 1) (.slice (some ⟨w2.heap.size, 0, none⟩) 1 1) [(⟨167903232, 16, 0, 0, 2, 0, 9, 0, 0⟩, [])] [⟨⟨167903232, 16, 0, 0, 2, 0, 9, 0, 0⟩, none, 0, 0⟩] := ⟨Sl.lit w2 (n := 1) (s := 10) #[.int .u32 167903232, .int .u8 16, .int .u32 0, .int .u8 0, .int .u8 2, .int .u32 0, .int .u32 9, .int .u32 0, .int .u32 0, .slice none 0 0] 38 (by simp [maxLen]) rfl, rfl, fun k h h2 => by
    obtain rfl : k = 0 := by simp at h; omega
    exact Sl.nil _ _ _⟩
  have hon3 := own_alloc hon (.cells #[.int .u32 167903232, .int .u8 16, .int .u32 0, .int .u8 0, .int .u8 2, .int .u32 0, .int .u32 9, .int .u32 0, .int .u32 0, .slice none 0 0] 38)
  have hB03 : Below w0.heap.size w0 (w2.alloc (.cells #[.int .u32 167903232, .int .u8 16, .int .u32 0, .int .u8 0, .int .u8 2, .int .u32 0, .int .u32 9, .int .u32 0, .int .u32 0, .slice none 0 0] 38)) := hB02.trans (hB3.mono hB02.size)
  clear hon hB02 hB3 hB2 hB1
  replace hz3 := Lib.hid hz3
  replace hW3 := Lib.hid hW3
  replace hon3 := Lib.hid hon3
  replace hB03 := Lib.hid hB03
  go_upto_region 4 with (first
    | (go_at_call 50; refine Calls.mono (one19_any _) ?_; rintro e w4 ⟨gs2, A2, c2, rfl, hS4, hB4⟩; have hB04 : Below w0.heap.size w0 w4 := hB03.out.trans (hB4.mono hB03.out.size); have CIm := Lib.hid (improve_any 1 w4.heap.size (some ⟨w2.heap.size, 0, none⟩) 1 [(⟨167903232, 16, 0, 0, 2, 0, 9, 0, 0⟩, [])] [⟨⟨167903232, 16, 0, 0, 2, 0, 9, 0, 0⟩, none, 0, 0⟩] (some ⟨gs2, 0, none⟩) 1 [(head19, body19)] [⟨head19, some ⟨A2, 0, none⟩, 8, c2⟩] 1 (some ⟨w.heap.size + 1, 0, none⟩) 1 [rout19] [⟨⟨0, 0, 2, 1, 1, 0, 3, 0, 0⟩, some ⟨w.heap.size, 0, none⟩, 1, 1⟩] w4 (fun r hr => by rw [List.mem_singleton.1 hr]; decide) (by decide) (by decide) ((hW3.out.below (hB4.mono (Nat.le_of_eq hz3.out.symm))).more (by have h1 := hz3.out; have h2 := hB4.size; omega)) (fun g hg => by rw [List.mem_singleton.1 hg]; exact ⟨by decide, by decide, by decide⟩) (fun g hg => by rw [List.mem_singleton.1 hg]; decide) (by decide) hS4 stOk19 ((hW0.out.below (hB04.mono (Nat.le_of_eq hz0.out.symm))).more (by have h1 := hz0.out; have h2 := hB04.size; omega)) wysOk19 (Nat.le_refl _)))
    | (go_at_call 17; refine Calls.mono CIm.out ?_; rintro e w5 ⟨xv, xs, rfl, hox, -, hgx, hB5⟩))
  rw [leads19] at hgx
  simp only [List.map_cons, List.map_nil, imp19] at hgx
  obtain ⟨⟨⟨yn, yA, yl, yc⟩, yh⟩, rfl⟩ : ∃ z, xs = [z] := by
    have h1 := congrArg List.length hgx
    simp [gOf] at h1
    exact List.length_eq_one_iff.1 h1
  simp only [gOf, List.map_cons, List.map_nil, List.cons.injEq, Prod.mk.injEq, and_true] at hgx
  obtain ⟨rfl, -⟩ := hgx
  clear CIm hS4
  replace hox : w5.ownsRow w4.heap.size 38 10 xv 1 (wayL ⟨⟨167903232, 16, 0, 0, 2, 0, 7, 0, 0⟩, yA, yl, yc⟩) := hox
  obtain ⟨gx, capx, rfl, -, -⟩ := hox.form (by decide)
  have hon5 := own_below (own_below hon3.out hB4) hB5
  have p6 : w5.cell? ⟨gn, 6, none⟩ = some (.int .u32 7) := hon5.cellAt 6 (by decide)
  have p4 : w5.cell? ⟨gn, 4, none⟩ = some (.int .u8 2) := hon5.cellAt 4 (by decide)
  have r6 : w5.cell? ⟨gx, 6, none⟩ = some (.int .u32 7) := hox.cellAt 6 (by decide)
  have hBw : Below w.heap.size w w5 := hB0.trans ((hB03.out.trans ((hB4.trans (hB5.mono hB4.size)).mono hB03.out.size)).mono hB0.size)
  clear hon5 hox hon3 hB03 hB04 hB4 hB5 hW3 hW0 hB0
  go_wp2
  go_ret
  exact ⟨rfl, hBw⟩
end Go.Proofs.YtiikagabdiphkaaGreat
