/- OriginDown's walk. Conditions: the port's full neighbours lie in memory. -/
import Derived.Test.YtdilbcmnfpmijaaOriI
import Derived.Deep.DeepCutAuto
namespace Go.Proofs.Ytdilbcmnfpmijaa
open Go.RowKit Go.Lo

structure Put (w : World) (g : Nat) (t : TypeId) (W : World) : Prop where
  os : W.os = w.os
  tape : W.tape = w.tape
  output : W.output = w.output
  size : W.heap.size = w.heap.size
  pre : ∃ cs, Blk w g t cs
  other : ∀ k, k ≠ g → W.heap[k]? = w.heap[k]?

theorem Put.below {w W a : World} {g : Nat} {t : TypeId} {B : Nat} (p : Put w g t W) (h : Below B a w) (hg : B ≤ g) : Below B a W :=
  ⟨p.os.trans h.os, p.tape.trans h.tape, p.output.trans h.output, by rw [p.size]; exact h.size, fun k hk => (p.other k (by omega)).trans (h.block k hk)⟩

theorem own_put {w W : World} {g : Nat} {t : TypeId} (p : Put w g t W) {base : Nat} {e : TypeId} {s n : Nat} {v : Value} {xs : List Value} (h : w.ownsRow base e s v n xs) (hne : t ≠ e) : W.ownsRow base e s v n xs := by
  refine ⟨h.1, ?_⟩
  rcases h.2 with h' | ⟨b, cap, cur, rfl, h1, h2, h3⟩
  · exact .inl h'
  · refine .inr ⟨b, cap, cur, rfl, h1, (p.other b ?_).trans h2, h3⟩
    intro hbg
    obtain ⟨cs, hcs⟩ := p.pre
    subst hbg
    have h4 := hcs.symm.trans h2
    simp only [Option.some.injEq, Obj.cells.injEq] at h4
    exact hne h4.2.1

theorem below_call {B : Nat} {a W w2 : World} (h : Below B a W) (h2 : Below W.heap.size W w2) (hB : B ≤ a.heap.size) : Below B a w2 := h.trans (h2.mono (Nat.le_trans hB h.size))
theorem below_alloc {B : Nat} {a W : World} (h : Below B a W) (hB : B ≤ a.heap.size) (o : Obj) : Below B a (W.alloc o) := h.alloc (Nat.le_trans hB h.size) o
theorem Blk.new_ (w : World) {g : Nat} {t : TypeId} {cs : Array Value} (hg : g = w.heap.size) : Blk (w.alloc (.cells cs t)) g t cs := by subst hg; exact Blk.new w t cs
theorem Blk.drew_ {w : World} {g : Nat} {t : TypeId} {cs : Array Value} (h : Blk w g t cs) : Blk w.drew g t cs := h
theorem Blk.call {W w2 : World} {g : Nat} {t : TypeId} {cs : Array Value} (hB : Below W.heap.size W w2) (h : Blk W g t cs) : Blk w2 g t cs := h.below hB h.lt
theorem Blk.put {W w2 : World} {g g2 : Nat} {t t2 : TypeId} {cs : Array Value} (p : Put W g2 t2 w2) (hne : g ≠ g2) (h : Blk W g t cs) : Blk w2 g t cs := (p.other g hne).trans h

/-- one cell written, as the walk lays it open -/
@[reducible] def cellPut (P : Program) (w : World) (A : Addr) (v : Value) : Result Unit :=
  Go.run_load.match_2 (fun _ => Result Unit) (w.cell? A)
    (fun _ => if w.frozen? A = true then .halt (.unsupported (.unsafePointer "a write to bytes that a string shares")) w else .ok () (w.setCell A v))
    (fun _ => Go.run_store.match_1 (fun _ => Result Unit) (World.farStore P w A v (Mode.plain == Mode.atomic)) (fun w' _ => .ok () w') (fun h => .halt h w))
theorem cellPut_ok {P : Program} {w : World} {g : Nat} {t : TypeId} {cs : Array Value} (h : Blk w g t cs) (i : Nat) (hi : i < cs.size) (v : Value) : cellPut P w ⟨g, i, none⟩ v = .ok () (w.setCell ⟨g, i, none⟩ v) := by
  obtain ⟨⟨u, hu⟩, hf⟩ := Blk.ok h i hi
  unfold cellPut
  rw [hu, hf]
  rfl
theorem Put.cell_ {w W : World} {g : Nat} {t : TypeId} (p : Put w g t W) (i : Nat) (v : Value) : Put w g t (W.setCell ⟨g, i, none⟩ v) :=
  ⟨p.os, p.tape, p.output, by simp [World.setCell, p.size], p.pre, fun k hk => (Below.heap_setCell W ⟨g, i, none⟩ v k hk).trans (p.other k hk)⟩
theorem Put.refl_ {w : World} {g : Nat} {t : TypeId} {cs : Array Value} (h : Blk w g t cs) : Put w g t w := ⟨rfl, rfl, rfl, rfl, ⟨cs, h⟩, fun _ _ => rfl⟩

theorem upon10 {P : Program} {o : Oper} {a : Act} {K : Act → World → Prop} {Q : Exit → Act → World → Prop} {w : World} {g : Nat} {t : TypeId} {x0 x1 x2 x3 x4 x5 x6 x7 x8 x9 : Value}
    (h : Blk w g t #[x0, x1, x2, x3, x4, x5, x6, x7, x8, x9]) (v0 v1 v2 v3 v4 v5 v6 v7 v8 v9 : Value)
    (hK : ∀ W, Blk W g t #[v0, v1, v2, v3, v4, v5, v6, v7, v8, v9] → Put w g t W → Oper.upon P o a K Q (Result.ok Next.skip W)) :
    Oper.upon P o a K Q (((cellPut P w ⟨g, 0, none⟩ v0).andThen fun _ w1 => (cellPut P w1 ⟨g, 1, none⟩ v1).andThen fun _ w2 => (cellPut P w2 ⟨g, 2, none⟩ v2).andThen fun _ w3 => (cellPut P w3 ⟨g, 3, none⟩ v3).andThen fun _ w4 =>
      (cellPut P w4 ⟨g, 4, none⟩ v4).andThen fun _ w5 => (cellPut P w5 ⟨g, 5, none⟩ v5).andThen fun _ w6 => (cellPut P w6 ⟨g, 6, none⟩ v6).andThen fun _ w7 => (cellPut P w7 ⟨g, 7, none⟩ v7).andThen fun _ w8 => (cellPut P w8 ⟨g, 8, none⟩ v8).andThen fun _ w9 =>
      cellPut P w9 ⟨g, 9, none⟩ v9).andThen fun _ w' => Result.ok Next.skip w') := by
  have k0 := h
  have k1 := k0.set_ 0 v0
  have k2 := k1.set_ 1 v1
  have k3 := k2.set_ 2 v2
  have k4 := k3.set_ 3 v3
  have k5 := k4.set_ 4 v4
  have k6 := k5.set_ 5 v5
  have k7 := k6.set_ 6 v6
  have k8 := k7.set_ 7 v7
  have k9 := k8.set_ 8 v8
  have k10 := k9.set_ 9 v9
  have p10 := (((((((((((Put.refl_ h).cell_ 0 v0).cell_ 1 v1).cell_ 2 v2).cell_ 3 v3).cell_ 4 v4).cell_ 5 v5).cell_ 6 v6).cell_ 7 v7).cell_ 8 v8).cell_ 9 v9)
  rw [cellPut_ok k0 0 (by simp)]
  simp only [Result.andThen_ok]
  rw [cellPut_ok k1 1 (by simp)]
  simp only [Result.andThen_ok]
  rw [cellPut_ok k2 2 (by simp)]
  simp only [Result.andThen_ok]
  rw [cellPut_ok k3 3 (by simp)]
  simp only [Result.andThen_ok]
  rw [cellPut_ok k4 4 (by simp)]
  simp only [Result.andThen_ok]
  rw [cellPut_ok k5 5 (by simp)]
  simp only [Result.andThen_ok]
  rw [cellPut_ok k6 6 (by simp)]
  simp only [Result.andThen_ok]
  rw [cellPut_ok k7 7 (by simp)]
  simp only [Result.andThen_ok]
  rw [cellPut_ok k8 8 (by simp)]
  simp only [Result.andThen_ok]
  rw [cellPut_ok k9 9 (by simp)]
  simp only [Result.andThen_ok]
  simp only [List.setIfInBounds_toArray, List.set_cons_zero, List.set_cons_succ] at k10
  exact hK _ k10 p10

theorem own_alloc {w : World} {base : Nat} {e : TypeId} {s n : Nat} {v : Value} {xs : List Value} (h : w.ownsRow base e s v n xs) (o : Obj) : (w.alloc o).ownsRow base e s v n xs := own_below h ((Below.refl _ _).alloc (Nat.le_refl _) o)

/-- what the two ports are behind their making -/
def DownR (B : Nat) (W0 : World) (p : OPort) (v5 v6 : Value) (wx : World) : Prop :=
  ∃ b5 b6 A1 c1 A2 c2, v5 = .pointer (some ⟨b5, 0, none⟩) ∧ v6 = .pointer (some ⟨b6, 0, none⟩) ∧ b5 ≠ b6 ∧ B ≤ b5 ∧ B ≤ b6 ∧
    Blk wx b5 73 #[.int .u8 p.kind, .int .u8 p.state, .int .u32 p.addr, .int .u32 p.netA, .int .u8 p.netB, .int .u16 p.cost, .int .u32 p.dr, .bool p.withDR, .slice A1 p.full.length c1, .int .u32 p.remote] ∧
    Blk wx b6 73 #[.int .u8 p.kind, .int .u8 p.state, .int .u32 p.addr, .int .u32 p.netA, .int .u8 p.netB, .int .u16 p.cost, .int .u32 p.dr, .bool p.withDR, .slice A2 p.full.length c2, .int .u32 p.remote] ∧
    wx.ownsRow B 22 1 (.slice A1 p.full.length c1) p.full.length (p.full.flatMap u32Cells) ∧ wx.ownsRow B 22 1 (.slice A2 p.full.length c2) p.full.length (p.full.flatMap u32Cells) ∧ Below B W0 wx

set_option maxRecDepth 100000 in
set_option maxHeartbeats 4000000 in
theorem originDown_any (p : OPort) (most : Bool) (w : World) (hp : PortAt w p) (hk : 0 ≤ p.kind) (hn : p.full.length ≤ 400) : Calls Try.prog 7 #[portVal p, .bool most] w fun e w' => e = .returned (.bool true) ∧ Below w.heap.size w w' := by
  have hp' := hp
  obtain ⟨kind, state, addr, netA, netB, pcost, dr, withDR, fv, full, remote⟩ := p
  obtain ⟨⟨_, A, c, hv, _⟩, _, hb0, hb1⟩ := hp
  simp only at hv hn hk
  subst hv
  obtain ⟨W0, hW0⟩ : ∃ W : World, W = w.alloc (.cells #[.int .u8 kind, .int .u8 state, .int .u32 addr, .int .u32 netA, .int .u8 netB, .int .u16 pcost, .int .u32 dr, .bool withDR, .slice A full.length c, .int .u32 remote] 72) := ⟨_, rfl⟩
  have hP0 : Blk W0 w.heap.size 72 #[.int .u8 kind, .int .u8 state, .int .u32 addr, .int .u32 netA, .int .u8 netB, .int .u16 pcost, .int .u32 dr, .bool withDR, .slice A full.length c, .int .u32 remote] := by rw [hW0]; exact Blk.new _ _ _
  have hB0 : Below w.heap.size w W0 := by rw [hW0]; exact (Below.refl _ _).alloc (Nat.le_refl _) _
  have hZ0 : W0.heap.size = w.heap.size + 1 := by rw [hW0]; simp
  have b0 := hP0.cell 0
  have b7 := hP0.cell 8
  simp only [List.getElem?_toArray, List.getElem?_cons_zero, List.getElem?_cons_succ] at b0 b7
  have HG : Hid (∀ W, Below (w.heap.size + 1) W0 W → Calls Try.prog 23 #[portVal ⟨kind, state, addr, netA, netB, pcost, dr, withDR, .slice A full.length c, full, remote⟩] W fun e w' => ∃ A' c', e = .returned (portVal ⟨kind, state, addr, netA, netB, pcost, dr, withDR, .slice A' full.length c', full, remote⟩) ∧ w'.ownsRow W.heap.size 22 1 (.slice A' full.length c') full.length (full.flatMap u32Cells) ∧ Below W.heap.size W w') := fun W h =>
    given22_any ⟨kind, state, addr, netA, netB, pcost, dr, withDR, .slice A full.length c, full, remote⟩ W (hp'.below (hB0.trans (h.mono (by omega))))
  have h400 : ¬ (400 : Int) < (full.length : Int) := by omega
  go_enter Try.func7, Try.ntmps7
  go_upto_region 3 with fail
  rw [← hW0]
  clear hW0
  have p0 : ∀ W, Below (w.heap.size + 1) W0 W → W.cell? ⟨w.heap.size, 0, none⟩ = some (.int .u8 kind) := fun W h => (h.cell (p := ⟨w.heap.size, 0, none⟩) (by show w.heap.size < w.heap.size + 1; omega)).trans (hP0.cell 0)
  have p1 : ∀ W, Below (w.heap.size + 1) W0 W → W.cell? ⟨w.heap.size, 1, none⟩ = some (.int .u8 state) := fun W h => (h.cell (p := ⟨w.heap.size, 1, none⟩) (by show w.heap.size < w.heap.size + 1; omega)).trans (hP0.cell 1)
  have p2 : ∀ W, Below (w.heap.size + 1) W0 W → W.cell? ⟨w.heap.size, 2, none⟩ = some (.int .u32 addr) := fun W h => (h.cell (p := ⟨w.heap.size, 2, none⟩) (by show w.heap.size < w.heap.size + 1; omega)).trans (hP0.cell 2)
  have p3 : ∀ W, Below (w.heap.size + 1) W0 W → W.cell? ⟨w.heap.size, 3, none⟩ = some (.int .u32 netA) := fun W h => (h.cell (p := ⟨w.heap.size, 3, none⟩) (by show w.heap.size < w.heap.size + 1; omega)).trans (hP0.cell 3)
  have p4 : ∀ W, Below (w.heap.size + 1) W0 W → W.cell? ⟨w.heap.size, 4, none⟩ = some (.int .u8 netB) := fun W h => (h.cell (p := ⟨w.heap.size, 4, none⟩) (by show w.heap.size < w.heap.size + 1; omega)).trans (hP0.cell 4)
  have p5 : ∀ W, Below (w.heap.size + 1) W0 W → W.cell? ⟨w.heap.size, 5, none⟩ = some (.int .u16 pcost) := fun W h => (h.cell (p := ⟨w.heap.size, 5, none⟩) (by show w.heap.size < w.heap.size + 1; omega)).trans (hP0.cell 5)
  have p6 : ∀ W, Below (w.heap.size + 1) W0 W → W.cell? ⟨w.heap.size, 6, none⟩ = some (.int .u32 dr) := fun W h => (h.cell (p := ⟨w.heap.size, 6, none⟩) (by show w.heap.size < w.heap.size + 1; omega)).trans (hP0.cell 6)
  have p7 : ∀ W, Below (w.heap.size + 1) W0 W → W.cell? ⟨w.heap.size, 7, none⟩ = some (.bool withDR) := fun W h => (h.cell (p := ⟨w.heap.size, 7, none⟩) (by show w.heap.size < w.heap.size + 1; omega)).trans (hP0.cell 7)
  have p8 : ∀ W, Below (w.heap.size + 1) W0 W → W.cell? ⟨w.heap.size, 8, none⟩ = some (.slice A full.length c) := fun W h => (h.cell (p := ⟨w.heap.size, 8, none⟩) (by show w.heap.size < w.heap.size + 1; omega)).trans (hP0.cell 8)
  have p9 : ∀ W, Below (w.heap.size + 1) W0 W → W.cell? ⟨w.heap.size, 9, none⟩ = some (.int .u32 remote) := fun W h => (h.cell (p := ⟨w.heap.size, 9, none⟩) (by show w.heap.size < w.heap.size + 1; omega)).trans (hP0.cell 9)
  have hBW : w.heap.size + 1 ≤ W0.heap.size := by omega
  replace hZ0 := Lib.hid hZ0
  go_cut [5, 6] (fun v5 v6 wx => DownR (w.heap.size + 1) W0 ⟨kind, state, addr, netA, netB, pcost, dr, withDR, .slice A full.length c, full, remote⟩ v5 v6 wx)
  case first =>
    go_region_held3 (fun W => Below (w.heap.size + 1) W0 W) (first | assumption | exact (Below.refl _ _).drew | (refine Below.drew ?_; refine below_alloc ?_ hBW _; first | exact Below.refl _ _ | (refine below_alloc ?_ hBW _; exact Below.refl _ _)) | (refine below_alloc ?_ hBW _; first | assumption | (refine below_alloc ?_ hBW _; assumption)) | fail)
        (first
          | (have _q := hB1; go_at_call 23; refine Calls.mono (HG.out _ (by assumption)) ?_; rintro e w2 ⟨A2, c2, rfl, ho2, hB2⟩; have hS2 := below_call (B := w.heap.size + 1) (a := W0) (by assumption) hB2 hBW; have HO2 := Lib.hid (own_less (base' := w.heap.size + 1) ho2 (Nat.le_trans hBW (Below.size (by assumption)))); clear ho2; have hz2 := hB2.size; (try simp at hz2); dsimp only)
          | (go_at_call 23; refine Calls.mono (HG.out _ (by assumption)) ?_; rintro e w1 ⟨A1, c1, rfl, ho1, hB1⟩; have hS1 := below_call (B := w.heap.size + 1) (a := W0) (by assumption) hB1 hBW; have HO1 := Lib.hid (own_less (base' := w.heap.size + 1) ho1 (Nat.le_trans hBW (Below.size (by assumption)))); clear ho1; have hz1 := hB1.size; (try simp at hz1); dsimp only)
          | (have _q := pW1; refine upon10 (t := 73) (x0 := .int .u8 0) (x1 := .int .u8 0) (x2 := .int .u32 0) (x3 := .int .u32 0) (x4 := .int .u8 0) (x5 := .int .u16 0) (x6 := .int .u32 0) (x7 := .bool false) (x8 := .slice none 0 0) (x9 := .int .u32 0) ?_ _ _ _ _ _ _ _ _ _ _ ?_; (focus ((repeat (first | exact Blk.new _ _ _ | exact heap_alloc2_new _ _ _ | refine Blk.alloc ?_ _ | refine Blk.call hB2 ?_ | refine Blk.call hB1 ?_ | refine Blk.put pW1 (by omega) ?_ | refine Blk.drew_ ?_ | fail)); done)); intro W2 kW2 pW2; have SW2 := pW2.below (by assumption) (by omega); have KW2 := Lib.hid kW2; clear kW2; go_simp)
          | (refine upon10 (t := 73) (x0 := .int .u8 0) (x1 := .int .u8 0) (x2 := .int .u32 0) (x3 := .int .u32 0) (x4 := .int .u8 0) (x5 := .int .u16 0) (x6 := .int .u32 0) (x7 := .bool false) (x8 := .slice none 0 0) (x9 := .int .u32 0) ?_ _ _ _ _ _ _ _ _ _ _ ?_; (focus ((repeat (first | exact Blk.new _ _ _ | exact heap_alloc2_new _ _ _ | refine Blk.alloc ?_ _ | refine Blk.call hB2 ?_ | refine Blk.call hB1 ?_ | refine Blk.put pW1 (by omega) ?_ | refine Blk.drew_ ?_ | fail)); done)); intro W1 kW1 pW1; have SW1 := pW1.below (by assumption) (by omega); have KW1 := Lib.hid kW1; clear kW1; go_simp))

    all_goals
      go_wp2_with fail
      go_meet
      case rel =>
        refine ⟨_, _, A1, c1, A2, c2, rfl, rfl, ?_, ?_, ?_, ?_, ?_, ?_, ?_, ?_⟩
        · omega
        · omega
        · omega
        · first | exact KW2.out | exact KW1.out | exact Blk.put pW2 (by omega) KW1.out | exact Blk.put pW1 (by omega) (Blk.new _ _ _) | exact Blk.new _ _ _ | exact (Blk.new _ _ _).alloc _ | exact heap_alloc2_new _ _ _ | fail
        · first | exact KW2.out | exact KW1.out | exact Blk.put pW2 (by omega) KW1.out | exact Blk.put pW1 (by omega) (Blk.new _ _ _) | exact Blk.new _ _ _ | exact (Blk.new _ _ _).alloc _ | exact heap_alloc2_new _ _ _ | fail
        · (repeat (first | exact HO1.out | exact HO2.out | refine own_put pW2 ?_ (by decide) | refine own_put pW1 ?_ (by decide) | refine own_below ?_ hB2 | refine own_alloc ?_ _ | fail))
        · (repeat (first | exact HO1.out | exact HO2.out | refine own_put pW2 ?_ (by decide) | refine own_put pW1 ?_ (by decide) | refine own_below ?_ hB2 | refine own_alloc ?_ _ | fail))
        · first | assumption | (refine below_alloc ?_ hBW _; first | assumption | (refine below_alloc ?_ hBW _; assumption)) | fail
  case rest =>
    obtain ⟨b5, b6, A1, c1, A2, c2, rfl, rfl, hne, hg5, hg6, hk5, hk6, ho1, ho2, hS⟩ := hcut
    clear b0 b7 p0 p1 p2 p3 p4 p5 p6 p7 p8 p9 HG
    dsimp only at hk5 hk6 ho1 ho2
    have P5 := (Put.refl_ hk5).cell_ 1 (.int .u8 0)
    have k6' := Blk.put P5 (Ne.symm hne) hk6
    have P6 := (Put.refl_ k6').cell_ 1 (.int .u8 1)
    have K5 := Blk.put P6 hne (hk5.set_ 1 (.int .u8 0))
    have K6 := k6'.set_ 1 (.int .u8 1)
    have O1 := own_put P6 (own_put P5 ho1 (by decide)) (by decide)
    have O2 := own_put P6 (own_put P5 ho2 (by decide)) (by decide)
    have S6 := P6.below (P5.below hS hg5) hg6
    have x5c := hk5.cell 1
    have x5f := hk5.free 1
    have x6c := k6'.cell 1
    have x6f := k6'.free 1
    simp only [List.setIfInBounds_toArray, List.set_cons_zero, List.set_cons_succ, List.getElem?_toArray, List.getElem?_cons_zero, List.getElem?_cons_succ] at K5 K6 x5c x6c
    replace O1 := Lib.hid O1
    replace O2 := Lib.hid O2
    replace K5 := Lib.hid K5
    replace K6 := Lib.hid K6
    replace S6 := Lib.hid S6
    replace hP0 := Lib.hid hP0
    clear P5 P6 hk5 hk6 k6' ho1 ho2
    go_upto_region 6 with fail
    clear x5c x5f x6c x6f
    generalize ((wc.setCell ⟨b5, 1, none⟩ (.int .u8 0)).setCell ⟨b6, 1, none⟩ (.int .u8 1)) = w6 at *
    obtain ⟨lq, hlq⟩ : ∃ l, l = linksL ⟨kind, 1, addr, netA, netB, pcost, dr, withDR, .slice A2 full.length c2, full, remote⟩ most := ⟨_, rfl⟩
    have CQ := links_any ⟨kind, 1, addr, netA, netB, pcost, dr, withDR, .slice A2 full.length c2, full, remote⟩ most w6 ⟨Sl.of_own O2.out, by show full.length ≤ 1000000; omega, hb0, hb1⟩ hk
    rw [← hlq] at CQ
    replace CQ := Lib.hid CQ
    replace hlq := Lib.hid hlq
    have z0 := K6.out.cell 0
    have z1 := K6.out.cell 1
    have z2 := K6.out.cell 2
    have z3 := K6.out.cell 3
    have z4 := K6.out.cell 4
    have z5 := K6.out.cell 5
    have z6 := K6.out.cell 6
    have z7 := K6.out.cell 7
    have z8 := K6.out.cell 8
    have z9 := K6.out.cell 9
    simp only [List.getElem?_toArray, List.getElem?_cons_zero, List.getElem?_cons_succ] at z0 z1 z2 z3 z4 z5 z6 z7 z8 z9
    go_upto_region 7 with (go_at_call 24; refine Calls.mono CQ.out ?_; rintro e w7 ⟨v7, rfl, hv7, hB7⟩)
    clear CQ
    clear z0 z1 z2 z3 z4 z5 z6 z7 z8 z9
    obtain ⟨_, A7, c7, rfl, _⟩ := Sl.of_own hv7
    replace K5 := Lib.hid (Blk.call hB7 K5.out)
    replace K6 := Lib.hid (Blk.call hB7 K6.out)
    replace O1 := Lib.hid (own_below O1.out hB7)
    replace S6 := Lib.hid (below_call S6.out hB7 hBW)
    replace hv7 := Lib.hid hv7
    clear hB7
    have CN := network_quiet ⟨kind, 0, addr, netA, netB, pcost, dr, withDR, .slice A1 full.length c1, full, remote⟩ 1 0 w7 (by show (0 : Int) ≠ 6; omega)
    replace CN := Lib.hid CN
    have z0 := K5.out.cell 0
    have z1 := K5.out.cell 1
    have z2 := K5.out.cell 2
    have z3 := K5.out.cell 3
    have z4 := K5.out.cell 4
    have z5 := K5.out.cell 5
    have z6 := K5.out.cell 6
    have z7 := K5.out.cell 7
    have z8 := K5.out.cell 8
    have z9 := K5.out.cell 9
    simp only [List.getElem?_toArray, List.getElem?_cons_zero, List.getElem?_cons_succ] at z0 z1 z2 z3 z4 z5 z6 z7 z8 z9
    go_upto_region 8 with (go_at_call 25; refine Calls.mono CN.out ?_; rintro e w8 ⟨rfl, hB8⟩)
    clear CN
    clear z0 z1 z2 z3 z4 z5 z6 z7 z8 z9
    replace K5 := Lib.hid ((Blk.call hB8 K5.out).alloc (.cells toldZ 34))
    replace K6 := Lib.hid ((Blk.call hB8 K6.out).alloc (.cells toldZ 34))
    replace O1 := Lib.hid (own_alloc (own_below O1.out hB8) (.cells toldZ 34))
    replace S6 := Lib.hid (below_alloc (below_call S6.out hB8 hBW) hBW (.cells toldZ 34))
    replace hv7 := Lib.hid (own_alloc (own_below hv7.out hB8) (.cells toldZ 34))
    clear hB8
    generalize w8.alloc (.cells toldZ 34) = w9 at *
    have CN := network_quiet ⟨kind, 1, addr, netA, netB, pcost, dr, withDR, .slice A2 full.length c2, full, remote⟩ 1 0 w9 (by show (1 : Int) ≠ 6; omega)
    replace CN := Lib.hid CN
    have z0 := K6.out.cell 0
    have z1 := K6.out.cell 1
    have z2 := K6.out.cell 2
    have z3 := K6.out.cell 3
    have z4 := K6.out.cell 4
    have z5 := K6.out.cell 5
    have z6 := K6.out.cell 6
    have z7 := K6.out.cell 7
    have z8 := K6.out.cell 8
    have z9 := K6.out.cell 9
    simp only [List.getElem?_toArray, List.getElem?_cons_zero, List.getElem?_cons_succ] at z0 z1 z2 z3 z4 z5 z6 z7 z8 z9
    go_upto_region 9 with (go_at_call 25; refine Calls.mono CN.out ?_; rintro e w10 ⟨rfl, hB10⟩)
    clear CN
    clear z0 z1 z2 z3 z4 z5 z6 z7 z8 z9
    replace K5 := Lib.hid ((Blk.call hB10 K5.out).alloc (.cells toldZ 34))
    replace O1 := Lib.hid (own_alloc (own_below O1.out hB10) (.cells toldZ 34))
    replace S6 := Lib.hid (below_alloc (below_call S6.out hB10 hBW) hBW (.cells toldZ 34))
    replace hv7 := Lib.hid (own_alloc (own_below hv7.out hB10) (.cells toldZ 34))
    clear hB10 K6
    generalize w10.alloc (.cells toldZ 34) = w11 at *
    have CD := links_any ⟨kind, 0, addr, netA, netB, pcost, dr, withDR, .slice A1 full.length c1, full, remote⟩ most w11 ⟨Sl.of_own O1.out, by show full.length ≤ 1000000; omega, hb0, hb1⟩ hk
    rw [show linksL ⟨kind, 0, addr, netA, netB, pcost, dr, withDR, .slice A1 full.length c1, full, remote⟩ most = [] from if_pos (.inr (.inl rfl))] at CD
    replace CD := Lib.hid CD
    have z0 := K5.out.cell 0
    have z1 := K5.out.cell 1
    have z2 := K5.out.cell 2
    have z3 := K5.out.cell 3
    have z4 := K5.out.cell 4
    have z5 := K5.out.cell 5
    have z6 := K5.out.cell 6
    have z7 := K5.out.cell 7
    have z8 := K5.out.cell 8
    have z9 := K5.out.cell 9
    simp only [List.getElem?_toArray, List.getElem?_cons_zero, List.getElem?_cons_succ] at z0 z1 z2 z3 z4 z5 z6 z7 z8 z9
    go_upto_region 11 with (go_at_call 24; refine Calls.mono CD.out ?_; rintro e w12 ⟨v12, rfl, hv12, hB12⟩; obtain ⟨_, A12, c12, rfl, _⟩ := Sl.of_own hv12; clear hv12)
    have S12 := below_call S6.out hB12 hBW
    have HP := hP0.out.below S12 (Nat.lt_succ_self _)
    have y0 := HP.cell 0
    have y3 := HP.cell 3
    have y5 := HP.cell 5
    simp only [List.getElem?_toArray, List.getElem?_cons_zero, List.getElem?_cons_succ] at y0 y3 y5
    have hv12 := own_below hv7.out hB12
    have hBe : Below w.heap.size w w12 := hB0.trans (S12.mono (by omega))
    clear CD K5 O1 z0 z1 z2 z3 z4 z5 z6 z7 z8 z9 hv7 S6 hB12 S12
    rcases Int.lt_or_le kind 4 with h4 | h4
    · have h4' : ¬ 4 ≤ kind := by omega
      obtain rfl : lq = [(netA, maskI netB, 3, pcost)] := hlq.out.trans (by
        unfold linksL
        rw [if_neg (by simp only; omega), if_pos rfl]
        rfl)
      obtain ⟨_, A', c', hA, _, _, hc⟩ := Sl.of_own hv12
      obtain ⟨rfl, _, rfl⟩ := Value.slice.inj hA
      obtain ⟨b, off, rfl, hb, hcell⟩ := hc (by simp)
      have X0 : ∀ W, Below w12.heap.size w12 W → W.cell? ⟨b, off, none⟩ = some (.int .u32 netA) := fun W h => (h.cell (p := ⟨b, off, none⟩) hb).trans (hcell 0 _ rfl)
      have X2 : ∀ W, Below w12.heap.size w12 W → W.cell? ⟨b, off + 2, none⟩ = some (.int .u8 3) := fun W h => (h.cell (p := ⟨b, off + 2, none⟩) hb).trans (hcell 2 _ rfl)
      have X3 : ∀ W, Below w12.heap.size w12 W → W.cell? ⟨b, off + 3, none⟩ = some (.int .u16 pcost) := fun W h => (h.cell (p := ⟨b, off + 3, none⟩) hb).trans (hcell 3 _ rfl)
      have hwl : w.heap.size < w12.heap.size := HP.lt
      have Y3 : ∀ W, Below w12.heap.size w12 W → W.cell? ⟨w.heap.size, 3, none⟩ = some (.int .u32 netA) := fun W h => (h.cell (p := ⟨w.heap.size, 3, none⟩) hwl).trans y3
      have Y5 : ∀ W, Below w12.heap.size w12 W → W.cell? ⟨w.heap.size, 5, none⟩ = some (.int .u16 pcost) := fun W h => (h.cell (p := ⟨w.heap.size, 5, none⟩) hwl).trans y5
      clear hcell HP hv12 hlq
      go_upto_region 13 with fail
      clear y0 y3 y5 hwl
      dsimp only [List.length_cons, List.length_nil, Nat.zero_add, Nat.reduceAdd]
      go_region_held3 (fun W => Below w12.heap.size w12 W) (first | assumption | exact (Below.refl _ _).drew | fail)
        ((go_at_call 11; refine Calls.mono (works22_any _) ?_; rintro e w13 ⟨rfl, hB13⟩; have hS13 := below_call (B := w12.heap.size) (a := w12) (by assumption) hB13 (Nat.le_refl _); dsimp only))
      go_wp2
      go_ret
      exact ⟨rfl, hBe.trans (hS13.mono (by have := hBe.size; omega))⟩
    · have h4' : ¬ kind < 4 := by omega
      obtain rfl : lq = [] := hlq.out.trans (by
        unfold linksL
        exact if_pos (by show 4 < kind ∨ (1 : Int) = 0 ∨ ((1 : Int) = 1 ∧ kind = 4); omega))
      clear HP hv12 hlq
      go_wp2_with (go_at_call 11; refine Calls.mono (works22_any _) ?_; rintro e w13 ⟨rfl, hB13⟩)
      go_ret
      exact ⟨rfl, below_call hBe hB13 (Nat.le_refl _)⟩

set_option maxRecDepth 100000 in
theorem originDown_big (p : OPort) (most : Bool) (w : World) (hs : Sl w w.heap.size 1 p.fv p.full.length (p.full.flatMap u32Cells)) (hn : 400 < p.full.length) : Calls Try.prog 7 #[portVal p, .bool most] w fun e w' => e = .returned (.bool true) ∧ Below w.heap.size w w' := by
  obtain ⟨kind, state, addr, netA, netB, pcost, dr, withDR, fv, full, remote⟩ := p
  obtain ⟨_, A, c, hv, _⟩ := hs
  simp only at hv hn
  subst hv
  have hB0 : Below w.heap.size w (w.alloc (.cells #[.int .u8 kind, .int .u8 state, .int .u32 addr, .int .u32 netA, .int .u8 netB, .int .u16 pcost, .int .u32 dr, .bool withDR, .slice A full.length c, .int .u32 remote] 72)) := (Below.refl _ _).alloc (Nat.le_refl _) _
  have h400 : (400 : Int) < (full.length : Int) := by omega
  have h400' : ¬ (full.length : Int) ≤ 400 := by omega
  go_enter Try.func7, Try.ntmps7
  go_wp2_with (go_at_call 11; refine Calls.mono (works22_any _) ?_; rintro e w1 ⟨rfl, hB1⟩)
  go_ret
  exact ⟨rfl, below_call hB0 hB1 (Nat.le_refl _)⟩
end Go.Proofs.Ytdilbcmnfpmijaa
