/- The best at one prefix. -/
import Derived.Test.YtiikagabdiphkaaGreatMhb
import Derived.Test.YtiikagabdiphkaaGreatMie
import Derived.Maps.OwnOps
import Derived.Maps.OwnSet
import Derived.DeepKeys4
namespace Go.Proofs.YtiikagabdiphkaaGreat
open Go.RowKit Go.Lo Go.Maps Go.WideMaps

theorem laidOutZ : laidOutB Tryz.prog = true := by kernel_rfl
theorem pref_keyed : Keyed Tryz.prog 35 := Keyed.of_law (deep_law_laid laidOutZ (m := 2) (by omega) (of_decide_eq_true (by kernel_rfl)) (by kernel_rfl) (by rw [Tryz.underlying35]))
theorem pref_key20 : ∃ kl, keyOf Tryz.prog 35 (.agg #[.int .u32 335544320, .int .u8 8]) = some kl := Option.isSome_iff_exists.1 (by kernel_rfl)

/-- best's loop, after k ways -/
def BestR (kl : Lit) (w : World) (l : List WayV) (k : Nat) (v : Value) (wr : World) : Prop :=
  ((k = 0 ∧ v = .slice none 0 0 ∧ wr.ownsMap Tryz.prog 35 (plainElem Tryz.prog 3) w.heap.size 0 (DataW.map (H := Unit) [])) ∨
    ∃ (h : k - 1 < l.length) (g cap : Nat), 1 ≤ k ∧ v = .slice (some ⟨g, 0, none⟩) 1 cap ∧ wr.ownsRow (w.heap.size + 1) 38 10 v 1 (wayL l[k - 1]) ∧ wr.ownsMap Tryz.prog 35 (plainElem Tryz.prog 3) w.heap.size 1 ((DataW.map (H := Unit) []).put kl (.lit (.int .i64 0)))) ∧ Below w.heap.size w wr

set_option maxRecDepth 100000 in
set_option maxHeartbeats 2000000 in
theorem best20_any (l : List WayV) (lv : Value) (B : Nat) (w : World) (hl : Sl w B 10 lv l.length (l.flatMap wayL)) (hB : B ≤ w.heap.size) (h1 : 1 ≤ l.length) (hn : l.length ≤ 1000)
    (hp : ∀ k (h : k < l.length), l[k].n.addr = 335544320 ∧ l[k].n.bits = 8) (hbet : ∀ k (h : k < l.length) (h' : k - 1 < l.length), 1 ≤ k → betterP l[k].n l[k - 1].n = -1) :
    Calls Tryz.prog 84 #[lv] w fun e w' => ∃ g cap, ∃ h : l.length - 1 < l.length, e = .returned (.slice (some ⟨g, 0, none⟩) 1 cap) ∧ w'.ownsRow w.heap.size 38 10 (.slice (some ⟨g, 0, none⟩) 1 cap) 1 (wayL l[l.length - 1]) ∧ Below w.heap.size w w' := by
  have hl0 := hl
  obtain ⟨-, A, c, rfl, -⟩ := hl
  obtain ⟨kl, hkl⟩ := pref_key20
  have hmm := @run_makeMap Tryz.prog
  have hM0 := World.ownsMap_made (H := Unit) w Tryz.prog 35 (plainElem Tryz.prog 3)
  have hI := hM0.isMap
  have eHas : Maps.has ((DataW.map (H := Unit) []).put kl (.lit (.int .i64 0))) kl = true := Maps.has_put_same hI (pref_keyed.key hkl) _
  have eAt : ∀ z, DataW.atKey ((DataW.map (H := Unit) []).put kl (.lit (.int .i64 0))) kl z = .lit (.int .i64 0) := fun z => Maps.atKey_put_same hI (pref_keyed.key hkl) _ z
  have hZI : ∀ W, (zeroValue 3).run Tryz.prog W = .ok (.int .i64 0) W := fun W => by kernel_rfl
  have kB : Below w.heap.size w (w.alloc (.map #[] 0)) := (Below.refl _ _).alloc (Nat.le_refl _) _
  replace hM0 := Lib.hid hM0
  replace hp := Lib.hid hp
  replace hbet := Lib.hid hbet
  go_enter Tryz.func84, Tryz.ntmps84
  go_upto_region 3 with fail
  generalize w.alloc (.map #[] 0) = w0 at hM0 kB ⊢
  go_wp2_with fail
  go_loopg [4, 12] l.length (fun m v i wr => ∃ k : Nat, k ≤ l.length ∧ m = l.length - k ∧ i = .int .i64 k ∧ BestR kl w l k v wr)
  case atStart => exact ⟨0, Nat.zero_le _, rfl, rfl, .inl ⟨rfl, rfl, hM0.out⟩, kB⟩
  case round =>
    clear hM0 kB
    obtain ⟨k, hk, rfl, rfl, hR, hBr⟩ := hrel
    obtain ⟨w1, rfl⟩ : ∃ x : World, x = wr := ⟨_, rfl⟩
    have hz := hBr.size
    by_cases hkl2 : k < l.length
    · obtain ⟨b, off, rfl, hb, hrow⟩ := Sl.row wayL_len (hl0.below (hBr.mono hB)) hkl2
      have hpk := hp.out k hkl2
      have hbk := hbet.out k hkl2
      obtain ⟨x, hx⟩ : ∃ x, x = l[k] := ⟨_, rfl⟩
      rw [← hx] at hrow hpk hbk
      replace hx := Lib.hid hx
      obtain ⟨⟨x0, x1, x2, x3, x4, x5, x6, x7, x8⟩, xA, xn, xc⟩ := x
      dsimp only at hpk
      obtain ⟨rfl, rfl⟩ := hpk
      have q0 : w1.cell? ⟨b, off + k * 10, none⟩ = some (.int .u32 335544320) := hrow 0 _ rfl
      have q1 : w1.cell? ⟨b, off + k * 10 + 1, none⟩ = some (.int .u8 8) := hrow 1 _ rfl
      have q2 : w1.cell? ⟨b, off + k * 10 + 2, none⟩ = some (.int .u32 x2) := hrow 2 _ rfl
      have q3 : w1.cell? ⟨b, off + k * 10 + 3, none⟩ = some (.int .u8 x3) := hrow 3 _ rfl
      have q4 : w1.cell? ⟨b, off + k * 10 + 4, none⟩ = some (.int .u8 x4) := hrow 4 _ rfl
      have q5 : w1.cell? ⟨b, off + k * 10 + 5, none⟩ = some (.int .u32 x5) := hrow 5 _ rfl
      have q6 : w1.cell? ⟨b, off + k * 10 + 6, none⟩ = some (.int .u32 x6) := hrow 6 _ rfl
      have q7 : w1.cell? ⟨b, off + k * 10 + 7, none⟩ = some (.int .u32 x7) := hrow 7 _ rfl
      have q8 : w1.cell? ⟨b, off + k * 10 + 8, none⟩ = some (.int .u32 x8) := hrow 8 _ rfl
      have q9 : w1.cell? ⟨b, off + k * 10 + 9, none⟩ = some (.slice xA xn xc) := hrow 9 _ rfl
      have ik : (k : Int) < (l.length : Int) := by omega
      clear hrow
      have KX := Blk.new w1 38 #[.int .u32 335544320, .int .u8 8, .int .u32 x2, .int .u8 x3, .int .u8 x4, .int .u32 x5, .int .u32 x6, .int .u32 x7, .int .u32 x8, .slice xA xn xc]
      have hB2 : Below w.heap.size w (w1.alloc (.cells #[.int .u32 335544320, .int .u8 8, .int .u32 x2, .int .u8 x3, .int .u8 x4, .int .u32 x5, .int .u32 x6, .int .u32 x7, .int .u32 x8, .slice xA xn xc] 38)) := hBr.alloc hz _
      have hz2 : (w1.alloc (.cells #[.int .u32 335544320, .int .u8 8, .int .u32 x2, .int .u8 x3, .int .u8 x4, .int .u32 x5, .int .u32 x6, .int .u32 x7, .int .u32 x8, .slice xA xn xc] 38)).heap.size = w1.heap.size + 1 := by simp
      have x0 := KX.cell 0
      have x1 := KX.cell 1
      simp only [List.getElem?_toArray, List.getElem?_cons_zero, List.getElem?_cons_succ] at x0 x1
      replace hR := Lib.hid hR
      go_upto_region 6 with fail
      clear q0 q1 q2 q3 q4 q5 q6 q7 q8 q9
      rcases hR.out with ⟨hk0, rfl, hM⟩ | ⟨hk1, g, cap, hk2, rfl, ho, hM⟩
      · have hne0 := Lib.hid (show w1.heap.size ≠ w.heap.size from fun e => by have := hM.lt; omega)
        have HM := Lib.hid (hM.alloc (.cells #[.int .u32 335544320, .int .u8 8, .int .u32 x2, .int .u8 x3, .int .u8 x4, .int .u32 x5, .int .u32 x6, .int .u32 x7, .int .u32 x8, .slice xA xn xc] 38))
        replace hk0 := Lib.hid hk0
        clear hR hM
        generalize w1.alloc (.cells #[.int .u32 335544320, .int .u8 8, .int .u32 x2, .int .u8 x3, .int .u8 x4, .int .u32 x5, .int .u32 x6, .int .u32 x7, .int .u32 x8, .slice xA xn xc] 38) = w2 at KX hB2 hz2 x0 x1 HM ⊢
        go_upto_region 7 with (at_lookup; refine wpList_lookup_own_ok_int _ rfl _ _ 204 rfl 35 3 .i64 pref_keyed Tryz.underlying204 Tryz.underlying3 (hZI _) w.heap.size 0 (.map []) rfl HM.out _ kl rfl hkl ?_; intro cc hcc hwc; rw [show Maps.has (DataW.map (H := Unit) []) kl = false from rfl])
        clear hcc hwc
        go_upto_region 9 with (at_mapUpdate; refine wpList_mapUpdate_own _ rfl _ _ _ 204 rfl 35 3 pref_keyed Tryz.underlying204 _ w.heap.size 0 (.map []) rfl HM.out (by simp only [maxLen]; omega) _ _ kl rfl rfl hkl (.lit (.int .i64 0)) [] (plainElem_int Tryz.underlying3 (by decide)) ?_; intro w6 hM6 hG6; replace hM6 := Lib.hid hM6; replace hG6 := Lib.hid hG6)
        have hmx : w1.heap.size ≠ w.heap.size := hne0.out
        have KX6 := KX.same (hG6.out.block _ KX.lt (by simpa using hmx))
        have hB6 : Below w.heap.size w w6 := hB2.trans (below_of_grown hG6.out hB2.size (fun g hg => by simp at hg; omega))
        have hz6 := hB6.size
        go_wp2_with (first
          | (refine wpList_load_row rfl 38 (.tmp 6) rfl w1.heap.size rfl 38 #[.int .u32 335544320, .int .u8 8, .int .u32 x2, .int .u8 x3, .int .u8 x4, .int .u32 x5, .int .u32 x6, .int .u32 x7, .int .u32 x8, .slice xA xn xc] (0, 0) _ KX6 Tryz.underlying38 rfl (by kernel_rfl) ?_)
          | (at_builtin; refine wpList_append rfl (.tmp 30) (.tmp 32) 30 rfl (w.heap.size + 1) wayT (.slice none 0 0) 0 [] rfl (World.ownsRow_nil _ _ _ _) _ _ 1 [.int .u32 335544320, .int .u8 8, .int .u32 x2, .int .u8 x3, .int .u8 x4, .int .u32 x5, .int .u32 x6, .int .u32 x7, .int .u32 x8, .slice xA xn xc] rfl (Sl.lit w6 #[.int .u32 335544320, .int .u8 8, .int .u32 x2, .int .u8 x3, .int .u8 x4, .int .u32 x5, .int .u32 x6, .int .u32 x7, .int .u32 x8, .slice xA xn xc] 38 (by simp [maxLen]) rfl) (by simp [Value.oneCell']) (by simp only [maxLen]; omega) (by omega) (by simp; omega) ?_; intro v7 w7 ho7 hg7 hob7; rw [Nat.zero_add, List.nil_append] at ho7; obtain ⟨g7, cap7, rfl, hbg7, hgl7⟩ := ho7.form (by omega); have hM7 := (hM6.out.alloc (.cells #[.int .u32 335544320, .int .u8 8, .int .u32 x2, .int .u8 x3, .int .u8 x4, .int .u32 x5, .int .u32 x6, .int .u32 x7, .int .u32 x8, .slice xA xn xc] 38)).kept hg7 (by simp [Value.ownBlock])))
        have hB7 : Below w.heap.size w w7 := (hB6.alloc hz6 (.cells #[.int .u32 335544320, .int .u8 8, .int .u32 x2, .int .u8 x3, .int .u8 x4, .int .u32 x5, .int .u32 x6, .int .u32 x7, .int .u32 x8, .slice xA xn xc] 38)).trans (below_of_grown hg7 (by simp; omega) (fun g hg => by simp [Value.ownBlock] at hg))
        have hxx := hx.out
        have hk0' := hk0.out
        go_roundg (l.length - (k + 1))
        case measure => omega
        case rel => exact ⟨k + 1, by omega, rfl, by go_num, .inr ⟨by omega, g7, cap7, by omega, rfl, by simp only [Nat.add_sub_cancel]; rw [← hxx]; exact ho7, hM7⟩, hB7⟩
      · obtain ⟨y, hy⟩ : ∃ y, y = l[k - 1] := ⟨_, rfl⟩
        have hbk2 := hbk hk1 hk2
        rw [← hy] at ho hbk2
        have HM := Lib.hid (hM.alloc (.cells #[.int .u32 335544320, .int .u8 8, .int .u32 x2, .int .u8 x3, .int .u8 x4, .int .u32 x5, .int .u32 x6, .int .u32 x7, .int .u32 x8, .slice xA xn xc] 38))
        have hgl := ho.lt g rfl
        have ho2 := own_alloc ho (.cells #[.int .u32 335544320, .int .u8 8, .int .u32 x2, .int .u8 x3, .int .u8 x4, .int .u32 x5, .int .u32 x6, .int .u32 x7, .int .u32 x8, .slice xA xn xc] 38)
        obtain ⟨⟨y0, y1, y2, y3, y4, y5, y6, y7, y8⟩, yA, yn, yc⟩ := y
        clear hR hM hy
        have CB := fun W => better_any ⟨335544320, 8, x2, x3, x4, x5, x6, x7, x8⟩ ⟨y0, y1, y2, y3, y4, y5, y6, y7, y8⟩ (.slice xA xn xc) (.slice yA yn yc) W
        rw [hbk2] at CB
        dsimp only [wayC] at CB
        replace CB := Lib.hid CB
        clear hbk hbk2
        generalize w1.alloc (.cells #[.int .u32 335544320, .int .u8 8, .int .u32 x2, .int .u8 x3, .int .u8 x4, .int .u32 x5, .int .u32 x6, .int .u32 x7, .int .u32 x8, .slice xA xn xc] 38) = w2 at KX hB2 hz2 x0 x1 HM ho2 ⊢
        go_upto_region 10 with (at_lookup; refine wpList_lookup_own_ok_int _ rfl _ _ 204 rfl 35 3 .i64 pref_keyed Tryz.underlying204 Tryz.underlying3 (hZI _) w.heap.size 1 ((DataW.map (H := Unit) []).put kl (.lit (.int .i64 0))) rfl HM.out _ kl rfl hkl ?_; intro cc hcc hwc; rw [eAt] at hcc; simp only [DataW.lit.injEq, Lit.int.injEq, true_and] at hcc; subst hcc; rw [eHas])
        have p0 : ∀ W, Below w2.heap.size w2 W → W.cell? ⟨w1.heap.size, 0, none⟩ = some (.int .u32 335544320) := fun W h => (h.cell (p := ⟨w1.heap.size, 0, none⟩) (by show w1.heap.size < w2.heap.size; omega)).trans (KX.cell 0)
        have r0 : ∀ W, Below w2.heap.size w2 W → W.cell? ⟨g, 0, none⟩ = some (.int .u32 y0) := fun W h => (h.cell (p := ⟨g, 0, none⟩) (by show g < w2.heap.size; omega)).trans (ho2.cellAt 0 (by omega))
        have p1 : ∀ W, Below w2.heap.size w2 W → W.cell? ⟨w1.heap.size, 1, none⟩ = some (.int .u8 8) := fun W h => (h.cell (p := ⟨w1.heap.size, 1, none⟩) (by show w1.heap.size < w2.heap.size; omega)).trans (KX.cell 1)
        have r1 : ∀ W, Below w2.heap.size w2 W → W.cell? ⟨g, 1, none⟩ = some (.int .u8 y1) := fun W h => (h.cell (p := ⟨g, 1, none⟩) (by show g < w2.heap.size; omega)).trans (ho2.cellAt 1 (by omega))
        have p2 : ∀ W, Below w2.heap.size w2 W → W.cell? ⟨w1.heap.size, 2, none⟩ = some (.int .u32 x2) := fun W h => (h.cell (p := ⟨w1.heap.size, 2, none⟩) (by show w1.heap.size < w2.heap.size; omega)).trans (KX.cell 2)
        have r2 : ∀ W, Below w2.heap.size w2 W → W.cell? ⟨g, 2, none⟩ = some (.int .u32 y2) := fun W h => (h.cell (p := ⟨g, 2, none⟩) (by show g < w2.heap.size; omega)).trans (ho2.cellAt 2 (by omega))
        have p3 : ∀ W, Below w2.heap.size w2 W → W.cell? ⟨w1.heap.size, 3, none⟩ = some (.int .u8 x3) := fun W h => (h.cell (p := ⟨w1.heap.size, 3, none⟩) (by show w1.heap.size < w2.heap.size; omega)).trans (KX.cell 3)
        have r3 : ∀ W, Below w2.heap.size w2 W → W.cell? ⟨g, 3, none⟩ = some (.int .u8 y3) := fun W h => (h.cell (p := ⟨g, 3, none⟩) (by show g < w2.heap.size; omega)).trans (ho2.cellAt 3 (by omega))
        have p4 : ∀ W, Below w2.heap.size w2 W → W.cell? ⟨w1.heap.size, 4, none⟩ = some (.int .u8 x4) := fun W h => (h.cell (p := ⟨w1.heap.size, 4, none⟩) (by show w1.heap.size < w2.heap.size; omega)).trans (KX.cell 4)
        have r4 : ∀ W, Below w2.heap.size w2 W → W.cell? ⟨g, 4, none⟩ = some (.int .u8 y4) := fun W h => (h.cell (p := ⟨g, 4, none⟩) (by show g < w2.heap.size; omega)).trans (ho2.cellAt 4 (by omega))
        have p5 : ∀ W, Below w2.heap.size w2 W → W.cell? ⟨w1.heap.size, 5, none⟩ = some (.int .u32 x5) := fun W h => (h.cell (p := ⟨w1.heap.size, 5, none⟩) (by show w1.heap.size < w2.heap.size; omega)).trans (KX.cell 5)
        have r5 : ∀ W, Below w2.heap.size w2 W → W.cell? ⟨g, 5, none⟩ = some (.int .u32 y5) := fun W h => (h.cell (p := ⟨g, 5, none⟩) (by show g < w2.heap.size; omega)).trans (ho2.cellAt 5 (by omega))
        have p6 : ∀ W, Below w2.heap.size w2 W → W.cell? ⟨w1.heap.size, 6, none⟩ = some (.int .u32 x6) := fun W h => (h.cell (p := ⟨w1.heap.size, 6, none⟩) (by show w1.heap.size < w2.heap.size; omega)).trans (KX.cell 6)
        have r6 : ∀ W, Below w2.heap.size w2 W → W.cell? ⟨g, 6, none⟩ = some (.int .u32 y6) := fun W h => (h.cell (p := ⟨g, 6, none⟩) (by show g < w2.heap.size; omega)).trans (ho2.cellAt 6 (by omega))
        have p7 : ∀ W, Below w2.heap.size w2 W → W.cell? ⟨w1.heap.size, 7, none⟩ = some (.int .u32 x7) := fun W h => (h.cell (p := ⟨w1.heap.size, 7, none⟩) (by show w1.heap.size < w2.heap.size; omega)).trans (KX.cell 7)
        have r7 : ∀ W, Below w2.heap.size w2 W → W.cell? ⟨g, 7, none⟩ = some (.int .u32 y7) := fun W h => (h.cell (p := ⟨g, 7, none⟩) (by show g < w2.heap.size; omega)).trans (ho2.cellAt 7 (by omega))
        have p8 : ∀ W, Below w2.heap.size w2 W → W.cell? ⟨w1.heap.size, 8, none⟩ = some (.int .u32 x8) := fun W h => (h.cell (p := ⟨w1.heap.size, 8, none⟩) (by show w1.heap.size < w2.heap.size; omega)).trans (KX.cell 8)
        have r8 : ∀ W, Below w2.heap.size w2 W → W.cell? ⟨g, 8, none⟩ = some (.int .u32 y8) := fun W h => (h.cell (p := ⟨g, 8, none⟩) (by show g < w2.heap.size; omega)).trans (ho2.cellAt 8 (by omega))
        have p9 : ∀ W, Below w2.heap.size w2 W → W.cell? ⟨w1.heap.size, 9, none⟩ = some (.slice xA xn xc) := fun W h => (h.cell (p := ⟨w1.heap.size, 9, none⟩) (by show w1.heap.size < w2.heap.size; omega)).trans (KX.cell 9)
        have r9 : ∀ W, Below w2.heap.size w2 W → W.cell? ⟨g, 9, none⟩ = some (.slice yA yn yc) := fun W h => (h.cell (p := ⟨g, 9, none⟩) (by show g < w2.heap.size; omega)).trans (ho2.cellAt 9 (by omega))
        have i1 : (0 : Int) < 1 := by omega
        have QX := Lib.hid KX
        have HZ := Lib.hid hz2
        clear hz2
        have QO := Lib.hid ho2
        clear KX ho2 ho x0 x1
        go_region_held3 (fun W => Below w2.heap.size w2 W) (first | assumption | exact (Below.refl _ _).drew | exact Below.refl _ _ | fail)
          (first
            | (go_at_call 38; with_reducible refine Calls.mono (CB.out _) ?_; rintro e w3 ⟨rfl, hB3⟩; have hS3 := below_call (B := w2.heap.size) (a := w2) (by first | assumption | exact (Below.refl _ _).drew) hB3 (Nat.le_refl _))
            | fail)
        clear p0 r0 p1 r1 p2 r2 p3 r3 p4 r4 p5 r5 p6 r6 p7 r7 p8 r8 p9 r9
        have hz2 := HZ.out
        have KX3 := QX.out.below hS3 (by omega)
        have ho3 := own_below QO.out hS3
        have HM3 := Lib.hid (HM.out.kept (grown_of_below hS3 none) (by simp))
        have hB3' := hB2.trans (hS3.mono hB2.size)
        have hz3 := hS3.size
        go_wp2_with (first
          | (refine wpList_load_row rfl 38 (.tmp 6) rfl w1.heap.size rfl 38 #[.int .u32 335544320, .int .u8 8, .int .u32 x2, .int .u8 x3, .int .u8 x4, .int .u32 x5, .int .u32 x6, .int .u32 x7, .int .u32 x8, .slice xA xn xc] (0, 0) _ KX3 Tryz.underlying38 rfl (by kernel_rfl) ?_)
          | (refine wpList_store_own rfl 38 (.tmp 45) (.tmp 44) rfl (k := 0) [.int .u32 335544320, .int .u8 8, .int .u32 x2, .int .u8 x3, .int .u8 x4, .int .u32 x5, .int .u32 x6, .int .u32 x7, .int .u32 x8, .slice xA xn xc] rfl rfl ho3 rfl (by kernel_rfl) (by simp [Value.oneCell']) (by simp) ?_; intro w4 ho4 hg4))
        have hM4 := HM3.out.kept hg4 (by simp; omega)
        have hB4 : Below w.heap.size w w4 := hB3'.trans (below_of_grown hg4 hB3'.size (fun g' hg => by simp at hg; omega))
        have hxx := hx.out
        go_roundg (l.length - (k + 1))
        case measure => omega
        case rel => exact ⟨k + 1, by omega, rfl, by go_num, .inr ⟨by omega, g, cap, by omega, rfl, by simp only [Nat.add_sub_cancel]; rw [← hxx]; exact ho4, hM4⟩, hB4⟩
    · obtain rfl : k = l.length := by omega
      rcases hR with ⟨hk0, rfl, hM⟩ | ⟨hk1, g, cap, hk2, rfl, ho, hM⟩
      · omega
      · clear hM
        go_wp2_with (go_at_call 93; refine Calls.mono (sortwB_one (some ⟨g, 0, none⟩) 1 cap _ (Nat.le_refl _) _) ?_; rintro e w3 ⟨rfl, rfl⟩)
        go_ret
        exact ⟨g, cap, hk1, rfl, own_less ho (by omega), hBr⟩
end Go.Proofs.YtiikagabdiphkaaGreat
