/- origin's Router. Conditions: the ports lie in memory. -/
import Derived.Test.YtdilbcmnfpmijaaOriE
namespace Go.Proofs.Ytdilbcmnfpmijaa
open Go.RowKit Go.Lo

structure OView where
  router : Int
  border : Bool
  outer : Bool
  ends : Bool
  always : Bool
  most : Bool
abbrev viewVal (v : OView) (pv : Value) : Value := .agg #[.int .u32 v.router, .bool v.border, .bool v.outer, .bool v.ends, .bool v.always, .bool v.most, pv]

def PortsAt (w : World) (B : Nat) (v : Value) (ps : List OPort) : Prop := Sl w B 10 v ps.length (ps.flatMap portCells) ∧ ∀ p ∈ ps, Sl w B 1 p.fv p.full.length (p.full.flatMap u32Cells) ∧ p.full.length ≤ 1000000 ∧ 0 ≤ p.netB ∧ p.netB ≤ 255 ∧ 0 ≤ p.kind
theorem PortsAt.below {w w' : World} {B : Nat} {v : Value} {ps : List OPort} (h : PortsAt w B v ps) (hb : Below B w w') : PortsAt w' B v ps := ⟨h.1.below hb, fun p hp => ⟨(h.2 p hp).1.below hb, (h.2 p hp).2⟩⟩

def fstep (x : Bool) (f c : Int) : Int := if x then bits BinOp.or IntKind.u8 f c else f
/-- the flags after the first k of the four -/
def fl8 (b o e a : Bool) : Nat → Int
  | 0 => 0
  | 1 => fstep b 0 1
  | 2 => fstep o (fstep b 0 1) 2
  | 3 => fstep e (fstep o (fstep b 0 1) 2) 4
  | _ => fstep a (fstep e (fstep o (fstep b 0 1) 2) 4) 16
def routerL (ps : List OPort) (most : Bool) : List OLink := ps.flatMap fun p => linksL p most
/-- what a router tells, as it lies in memory -/
def RouterPost (w : World) (v : OView) (ps : List OPort) (opts : Int) (e : Ending) (w' : World) : Prop :=
  ∃ lv, e = .returned (.agg #[.int .u8 1, .int .u32 v.router, .int .u8 opts, .int .u8 (fl8 v.border v.outer v.ends v.always 4), lv, .int .u32 0, .slice none 0 0, .int .u32 0, .bool false, .int .u32 0, .int .u32 0, .slice none 0 0]) ∧
    w'.ownsRow w.heap.size 42 4 lv (routerL ps v.most).length ((routerL ps v.most).flatMap linkCells) ∧ Below w.heap.size w w'

theorem toL_len (p : OPort) (t cost : Int) (f : Int → Bool) : (toL p t cost f p.full).length ≤ p.full.length := by
  unfold toL; rw [List.length_map]; exact List.length_filter_le _ _
theorem linksL_len (p : OPort) (most : Bool) : (linksL p most).length ≤ p.full.length + 1 := by
  have h1 := toL_len p 1 65535 (fun _ => true)
  have h2 := toL_len p 1 p.cost (fun _ => true)
  have h3 := toL_len p 4 65535 (fun id => id == p.remote)
  have h4 := toL_len p 4 p.cost (fun id => id == p.remote)
  unfold linksL kindL sharedL
  repeat' split
  all_goals simp
  all_goals omega
theorem routerL_succ {ps : List OPort} {k : Nat} (h : k < ps.length) (most : Bool) : routerL (ps.take (k + 1)) most = routerL (ps.take k) most ++ linksL ps[k] most := by
  unfold routerL
  rw [List.take_succ_eq_append_getElem h, List.flatMap_append]; simp
theorem routerL_len {ps : List OPort} (h : ∀ p ∈ ps, p.full.length ≤ 1000000) (most : Bool) (k : Nat) (hk : k ≤ ps.length) : (routerL (ps.take k) most).length ≤ k * 1000001 := by
  induction k with
  | zero => simp [routerL]
  | succ k ih =>
    have h1 := ih (by omega)
    have h2 := linksL_len (ps[k]'(by omega)) most
    have h3 := h _ (List.getElem_mem (show k < ps.length by omega))
    rw [routerL_succ (by omega), List.length_append, Nat.succ_mul]
    omega

/-- what stays while a port is told -/
structure RouterS (w w0 : World) (tb pb : Nat) (pc : Array Value) (W : World) : Prop where
  same : ∀ b, b < w0.heap.size → b ≠ tb → W.heap[b]? = w0.heap[b]?
  port : Blk W pb 73 pc
  below : Below w.heap.size w W
theorem RouterS.drew {w w0 W : World} {tb pb : Nat} {pc : Array Value} (h : RouterS w w0 tb pb pc W) : RouterS w w0 tb pb pc W.drew := ⟨h.same, h.port, h.below.drew⟩
theorem RouterS.set_ {w w0 W : World} {tb pb : Nat} {pc : Array Value} (h : RouterS w w0 tb pb pc W) (ht : w.heap.size ≤ tb) (hne : pb ≠ tb) (i : Nat) (u : Value) : RouterS w w0 tb pb pc (W.setCell ⟨tb, i, none⟩ u) :=
  ⟨fun b hb hbt => (Below.heap_setCell W ⟨tb, i, none⟩ u b hbt).trans (h.same b hb hbt), h.port.far hne u, h.below.setCell ht u⟩
theorem RouterS.on {w w0 W W' : World} {tb pb : Nat} {pc : Array Value} (h : RouterS w w0 tb pb pc W) (h0 : w0.heap.size ≤ W.heap.size) (hb : Below W.heap.size W W') : RouterS w w0 tb pb pc W' :=
  ⟨fun b hb1 hbt => (hb.block b (by omega)).trans (h.same b hb1 hbt), h.port.below hb h.port.lt, h.below.trans (hb.mono h.below.size)⟩

set_option maxRecDepth 100000 in
set_option maxHeartbeats 1000000 in
theorem router_any (v : OView) (pv : Value) (ps : List OPort) (opts : Int) (w : World) (hp : PortsAt w w.heap.size pv ps) (hn : ps.length ≤ 1000) :
    Calls Try.prog 12 #[viewVal v pv, .int .u8 opts] w (RouterPost w v ps opts) := by
  obtain ⟨router, border, outer, ends, always, most⟩ := v
  have hps := hp.1
  obtain ⟨_, A, c, rfl, _, _, _⟩ := hps
  go_enter Try.func12, Try.ntmps12
  go_wp2_with fail
  have k0 : Blk ((((w.alloc (.cells #[.int .u32 router, .bool border, .bool outer, .bool ends, .bool always, .bool most, .slice A ps.length c] 38)).alloc (.cells #[.int .u8 0, .int .u32 0, .int .u8 0, .int .u8 0, .slice none 0 0, .int .u32 0, .slice none 0 0, .int .u32 0, .bool false, .int .u32 0, .int .u32 0, .slice none 0 0] 34)).alloc (.cells #[.int .u8 1, .int .u32 router, .int .u8 opts, .int .u8 0, .slice none 0 0, .int .u32 0, .slice none 0 0, .int .u32 0, .bool false, .int .u32 0, .int .u32 0, .slice none 0 0] 34)).alloc (.cells #[.bool border, .int .u8 1, .bool outer, .int .u8 2, .bool ends, .int .u8 4, .bool always, .int .u8 16] 86)) w.heap.size 38 #[.int .u32 router, .bool border, .bool outer, .bool ends, .bool always, .bool most, .slice A ps.length c] := (((Blk.new w _ _).alloc _).alloc _).alloc _
  have k1 : Blk ((((w.alloc (.cells #[.int .u32 router, .bool border, .bool outer, .bool ends, .bool always, .bool most, .slice A ps.length c] 38)).alloc (.cells #[.int .u8 0, .int .u32 0, .int .u8 0, .int .u8 0, .slice none 0 0, .int .u32 0, .slice none 0 0, .int .u32 0, .bool false, .int .u32 0, .int .u32 0, .slice none 0 0] 34)).alloc (.cells #[.int .u8 1, .int .u32 router, .int .u8 opts, .int .u8 0, .slice none 0 0, .int .u32 0, .slice none 0 0, .int .u32 0, .bool false, .int .u32 0, .int .u32 0, .slice none 0 0] 34)).alloc (.cells #[.bool border, .int .u8 1, .bool outer, .int .u8 2, .bool ends, .int .u8 4, .bool always, .int .u8 16] 86)) (w.heap.size + 1) 34 #[.int .u8 0, .int .u32 0, .int .u8 0, .int .u8 0, .slice none 0 0, .int .u32 0, .slice none 0 0, .int .u32 0, .bool false, .int .u32 0, .int .u32 0, .slice none 0 0] := ((by have := Blk.new (w.alloc (.cells #[.int .u32 router, .bool border, .bool outer, .bool ends, .bool always, .bool most, .slice A ps.length c] 38)) 34 #[.int .u8 0, .int .u32 0, .int .u8 0, .int .u8 0, .slice none 0 0, .int .u32 0, .slice none 0 0, .int .u32 0, .bool false, .int .u32 0, .int .u32 0, .slice none 0 0]; rwa [World.size_alloc] at this : Blk ((w.alloc (.cells #[.int .u32 router, .bool border, .bool outer, .bool ends, .bool always, .bool most, .slice A ps.length c] 38)).alloc (.cells #[.int .u8 0, .int .u32 0, .int .u8 0, .int .u8 0, .slice none 0 0, .int .u32 0, .slice none 0 0, .int .u32 0, .bool false, .int .u32 0, .int .u32 0, .slice none 0 0] 34)) (w.heap.size + 1) 34 #[.int .u8 0, .int .u32 0, .int .u8 0, .int .u8 0, .slice none 0 0, .int .u32 0, .slice none 0 0, .int .u32 0, .bool false, .int .u32 0, .int .u32 0, .slice none 0 0]).alloc _).alloc _
  have k2 : Blk ((((w.alloc (.cells #[.int .u32 router, .bool border, .bool outer, .bool ends, .bool always, .bool most, .slice A ps.length c] 38)).alloc (.cells #[.int .u8 0, .int .u32 0, .int .u8 0, .int .u8 0, .slice none 0 0, .int .u32 0, .slice none 0 0, .int .u32 0, .bool false, .int .u32 0, .int .u32 0, .slice none 0 0] 34)).alloc (.cells #[.int .u8 1, .int .u32 router, .int .u8 opts, .int .u8 0, .slice none 0 0, .int .u32 0, .slice none 0 0, .int .u32 0, .bool false, .int .u32 0, .int .u32 0, .slice none 0 0] 34)).alloc (.cells #[.bool border, .int .u8 1, .bool outer, .int .u8 2, .bool ends, .int .u8 4, .bool always, .int .u8 16] 86)) (w.heap.size + 1 + 1) 34 #[.int .u8 1, .int .u32 router, .int .u8 opts, .int .u8 0, .slice none 0 0, .int .u32 0, .slice none 0 0, .int .u32 0, .bool false, .int .u32 0, .int .u32 0, .slice none 0 0] := (by have := Blk.new ((w.alloc (.cells #[.int .u32 router, .bool border, .bool outer, .bool ends, .bool always, .bool most, .slice A ps.length c] 38)).alloc (.cells #[.int .u8 0, .int .u32 0, .int .u8 0, .int .u8 0, .slice none 0 0, .int .u32 0, .slice none 0 0, .int .u32 0, .bool false, .int .u32 0, .int .u32 0, .slice none 0 0] 34)) 34 #[.int .u8 1, .int .u32 router, .int .u8 opts, .int .u8 0, .slice none 0 0, .int .u32 0, .slice none 0 0, .int .u32 0, .bool false, .int .u32 0, .int .u32 0, .slice none 0 0]; rwa [World.size_alloc, World.size_alloc] at this : Blk (((w.alloc (.cells #[.int .u32 router, .bool border, .bool outer, .bool ends, .bool always, .bool most, .slice A ps.length c] 38)).alloc (.cells #[.int .u8 0, .int .u32 0, .int .u8 0, .int .u8 0, .slice none 0 0, .int .u32 0, .slice none 0 0, .int .u32 0, .bool false, .int .u32 0, .int .u32 0, .slice none 0 0] 34)).alloc (.cells #[.int .u8 1, .int .u32 router, .int .u8 opts, .int .u8 0, .slice none 0 0, .int .u32 0, .slice none 0 0, .int .u32 0, .bool false, .int .u32 0, .int .u32 0, .slice none 0 0] 34)) (w.heap.size + 1 + 1) 34 #[.int .u8 1, .int .u32 router, .int .u8 opts, .int .u8 0, .slice none 0 0, .int .u32 0, .slice none 0 0, .int .u32 0, .bool false, .int .u32 0, .int .u32 0, .slice none 0 0]).alloc _
  have k3 : Blk ((((w.alloc (.cells #[.int .u32 router, .bool border, .bool outer, .bool ends, .bool always, .bool most, .slice A ps.length c] 38)).alloc (.cells #[.int .u8 0, .int .u32 0, .int .u8 0, .int .u8 0, .slice none 0 0, .int .u32 0, .slice none 0 0, .int .u32 0, .bool false, .int .u32 0, .int .u32 0, .slice none 0 0] 34)).alloc (.cells #[.int .u8 1, .int .u32 router, .int .u8 opts, .int .u8 0, .slice none 0 0, .int .u32 0, .slice none 0 0, .int .u32 0, .bool false, .int .u32 0, .int .u32 0, .slice none 0 0] 34)).alloc (.cells #[.bool border, .int .u8 1, .bool outer, .int .u8 2, .bool ends, .int .u8 4, .bool always, .int .u8 16] 86)) (w.heap.size + 1 + 1 + 1) 86 #[.bool border, .int .u8 1, .bool outer, .int .u8 2, .bool ends, .int .u8 4, .bool always, .int .u8 16] := by have := Blk.new (((w.alloc (.cells #[.int .u32 router, .bool border, .bool outer, .bool ends, .bool always, .bool most, .slice A ps.length c] 38)).alloc (.cells #[.int .u8 0, .int .u32 0, .int .u8 0, .int .u8 0, .slice none 0 0, .int .u32 0, .slice none 0 0, .int .u32 0, .bool false, .int .u32 0, .int .u32 0, .slice none 0 0] 34)).alloc (.cells #[.int .u8 1, .int .u32 router, .int .u8 opts, .int .u8 0, .slice none 0 0, .int .u32 0, .slice none 0 0, .int .u32 0, .bool false, .int .u32 0, .int .u32 0, .slice none 0 0] 34)) 86 #[.bool border, .int .u8 1, .bool outer, .int .u8 2, .bool ends, .int .u8 4, .bool always, .int .u8 16]; rwa [World.size_alloc, World.size_alloc, World.size_alloc] at this
  have kB : Below w.heap.size w ((((w.alloc (.cells #[.int .u32 router, .bool border, .bool outer, .bool ends, .bool always, .bool most, .slice A ps.length c] 38)).alloc (.cells #[.int .u8 0, .int .u32 0, .int .u8 0, .int .u8 0, .slice none 0 0, .int .u32 0, .slice none 0 0, .int .u32 0, .bool false, .int .u32 0, .int .u32 0, .slice none 0 0] 34)).alloc (.cells #[.int .u8 1, .int .u32 router, .int .u8 opts, .int .u8 0, .slice none 0 0, .int .u32 0, .slice none 0 0, .int .u32 0, .bool false, .int .u32 0, .int .u32 0, .slice none 0 0] 34)).alloc (.cells #[.bool border, .int .u8 1, .bool outer, .int .u8 2, .bool ends, .int .u8 4, .bool always, .int .u8 16] 86)) := ((((Below.refl _ _).alloc (Nat.le_refl _) _).alloc (by simp) _).alloc (by simp; omega) _).alloc (by simp; omega) _
  generalize ((((w.alloc (.cells #[.int .u32 router, .bool border, .bool outer, .bool ends, .bool always, .bool most, .slice A ps.length c] 38)).alloc (.cells #[.int .u8 0, .int .u32 0, .int .u8 0, .int .u8 0, .slice none 0 0, .int .u32 0, .slice none 0 0, .int .u32 0, .bool false, .int .u32 0, .int .u32 0, .slice none 0 0] 34)).alloc (.cells #[.int .u8 1, .int .u32 router, .int .u8 opts, .int .u8 0, .slice none 0 0, .int .u32 0, .slice none 0 0, .int .u32 0, .bool false, .int .u32 0, .int .u32 0, .slice none 0 0] 34)).alloc (.cells #[.bool border, .int .u8 1, .bool outer, .int .u8 2, .bool ends, .int .u8 4, .bool always, .int .u8 16] 86)) = w0 at *
  have hz0 := k3.lt
  replace hp := Lib.hid hp
  go_loopg [28] 4 (fun m i wr => ∃ (k : Nat) (fl : Int), k ≤ 4 ∧ m = 4 - k ∧ i = .int .i64 k ∧ fl = fl8 border outer ends always k ∧ Blk wr (w.heap.size + 1 + 1) 34 #[.int .u8 1, .int .u32 router, .int .u8 opts, .int .u8 fl, .slice none 0 0, .int .u32 0, .slice none 0 0, .int .u32 0, .bool false, .int .u32 0, .int .u32 0, .slice none 0 0] ∧ (∀ b, b < w0.heap.size → b ≠ w.heap.size + 1 + 1 → wr.heap[b]? = w0.heap[b]?) ∧ Below w.heap.size w wr ∧ w0.heap.size ≤ wr.heap.size)
  case atStart => exact ⟨0, 0, by omega, rfl, rfl, rfl, k2, fun _ _ _ => rfl, kB, Nat.le_refl _⟩
  case round =>
    obtain ⟨k, fl, hk, rfl, rfl, hfl, hT, hsame, hB, hz⟩ := hrel
    obtain ⟨w1, rfl⟩ : ∃ x : World, x = wr := ⟨_, rfl⟩
    have hL := k3.same (w' := w1) (hsame _ (by omega) (by omega))
    have hX := k0.same (w' := w1) (hsame _ (by omega) (by omega))
    have hR := k1.same (w' := w1) (hsame _ (by omega) (by omega))
    have t3 := hT.cell 3
    have f3 := hT.free 3
    have hz1 : w.heap.size + 1 + 1 < w1.heap.size := hT.lt
    replace hfl := Lib.hid hfl
    have hz2 : ∀ b, b < w0.heap.size → b < w1.heap.size := fun b hb => by omega
    replace hz2 := Lib.hid hz2
    replace hsame := Lib.hid hsame
    by_cases hkl : k < 4
    · have hk4 : k = 0 ∨ k = 1 ∨ k = 2 ∨ k = 3 := by omega
      rcases hk4 with rfl | rfl | rfl | rfl
      · have l0 := hL.cell 0
        have l1 := hL.cell 1
        cases border
        · go_wp2_with fail
          go_roundg (4 - 1)
          case measure => omega
          case rel => exact ⟨1, fl, by omega, rfl, by go_num, by rw [hfl.out]; rfl, hT.alloc _, fun b hb hne => (Below.heap_alloc w1 _ b (hz2.out b hb)).trans (hsame.out b hb hne), hB.alloc hB.size _, by simp; omega⟩
        · go_wp2_with fail
          go_roundg (4 - 1)
          case measure => omega
          case rel => exact ⟨1, bits BinOp.or IntKind.u8 fl 1, by omega, rfl, by go_num, by rw [hfl.out]; rfl, (hT.set_ 3 _).alloc _, fun b hb hne => (Below.heap_alloc (w1.setCell ⟨w.heap.size + 1 + 1, 3, none⟩ _) _ b (by simpa using hz2.out b hb)).trans ((Below.heap_setCell w1 ⟨w.heap.size + 1 + 1, 3, none⟩ _ b hne).trans (hsame.out b hb hne)), (Below.setCell hB (p := ⟨w.heap.size + 1 + 1, 3, none⟩) (by show _ ≤ w.heap.size + 1 + 1; omega) _).alloc (by have := hB.size; simp; omega) _, by simp; omega⟩
      · have l0 := hL.cell 2
        have l1 := hL.cell 3
        cases outer
        · go_wp2_with fail
          go_roundg (4 - 2)
          case measure => omega
          case rel => exact ⟨2, fl, by omega, rfl, by go_num, by rw [hfl.out]; rfl, hT.alloc _, fun b hb hne => (Below.heap_alloc w1 _ b (hz2.out b hb)).trans (hsame.out b hb hne), hB.alloc hB.size _, by simp; omega⟩
        · go_wp2_with fail
          go_roundg (4 - 2)
          case measure => omega
          case rel => exact ⟨2, bits BinOp.or IntKind.u8 fl 2, by omega, rfl, by go_num, by rw [hfl.out]; rfl, (hT.set_ 3 _).alloc _, fun b hb hne => (Below.heap_alloc (w1.setCell ⟨w.heap.size + 1 + 1, 3, none⟩ _) _ b (by simpa using hz2.out b hb)).trans ((Below.heap_setCell w1 ⟨w.heap.size + 1 + 1, 3, none⟩ _ b hne).trans (hsame.out b hb hne)), (Below.setCell hB (p := ⟨w.heap.size + 1 + 1, 3, none⟩) (by show _ ≤ w.heap.size + 1 + 1; omega) _).alloc (by have := hB.size; simp; omega) _, by simp; omega⟩
      · have l0 := hL.cell 4
        have l1 := hL.cell 5
        cases ends
        · go_wp2_with fail
          go_roundg (4 - 3)
          case measure => omega
          case rel => exact ⟨3, fl, by omega, rfl, by go_num, by rw [hfl.out]; rfl, hT.alloc _, fun b hb hne => (Below.heap_alloc w1 _ b (hz2.out b hb)).trans (hsame.out b hb hne), hB.alloc hB.size _, by simp; omega⟩
        · go_wp2_with fail
          go_roundg (4 - 3)
          case measure => omega
          case rel => exact ⟨3, bits BinOp.or IntKind.u8 fl 4, by omega, rfl, by go_num, by rw [hfl.out]; rfl, (hT.set_ 3 _).alloc _, fun b hb hne => (Below.heap_alloc (w1.setCell ⟨w.heap.size + 1 + 1, 3, none⟩ _) _ b (by simpa using hz2.out b hb)).trans ((Below.heap_setCell w1 ⟨w.heap.size + 1 + 1, 3, none⟩ _ b hne).trans (hsame.out b hb hne)), (Below.setCell hB (p := ⟨w.heap.size + 1 + 1, 3, none⟩) (by show _ ≤ w.heap.size + 1 + 1; omega) _).alloc (by have := hB.size; simp; omega) _, by simp; omega⟩
      · have l0 := hL.cell 6
        have l1 := hL.cell 7
        cases always
        · go_wp2_with fail
          go_roundg (4 - 4)
          case measure => omega
          case rel => exact ⟨4, fl, by omega, rfl, by go_num, by rw [hfl.out]; rfl, hT.alloc _, fun b hb hne => (Below.heap_alloc w1 _ b (hz2.out b hb)).trans (hsame.out b hb hne), hB.alloc hB.size _, by simp; omega⟩
        · go_wp2_with fail
          go_roundg (4 - 4)
          case measure => omega
          case rel => exact ⟨4, bits BinOp.or IntKind.u8 fl 16, by omega, rfl, by go_num, by rw [hfl.out]; rfl, (hT.set_ 3 _).alloc _, fun b hb hne => (Below.heap_alloc (w1.setCell ⟨w.heap.size + 1 + 1, 3, none⟩ _) _ b (by simpa using hz2.out b hb)).trans ((Below.heap_setCell w1 ⟨w.heap.size + 1 + 1, 3, none⟩ _ b hne).trans (hsame.out b hb hne)), (Below.setCell hB (p := ⟨w.heap.size + 1 + 1, 3, none⟩) (by show _ ≤ w.heap.size + 1 + 1; omega) _).alloc (by have := hB.size; simp; omega) _, by simp; omega⟩
    · obtain rfl : k = 4 := by omega
      have x6 := hX.cell 6
      replace hfl := hfl.out
      subst hfl
      obtain ⟨fl, hfl⟩ : ∃ fl, fl = fl8 border outer ends always 4 := ⟨_, rfl⟩
      rw [← hfl] at hT
      replace hfl := Lib.hid hfl
      have hlen : ∀ k, k ≤ ps.length → (routerL (ps.take k) most).length ≤ k * 1000001 := fun k hk => routerL_len (fun p hp' => (hp.out.2 p hp').2.1) most k hk
      replace hlen := Lib.hid hlen
      clear t3 f3
      go_wp2_with fail
      go_loopg [46] ps.length (fun m i wr => ∃ (k : Nat) (lv : Value), k ≤ ps.length ∧ m = ps.length - k ∧ i = .int .i64 k ∧ Blk wr (w.heap.size + 1 + 1) 34 #[.int .u8 1, .int .u32 router, .int .u8 opts, .int .u8 fl, lv, .int .u32 0, .slice none 0 0, .int .u32 0, .bool false, .int .u32 0, .int .u32 0, .slice none 0 0] ∧ wr.ownsRow w0.heap.size 42 4 lv (routerL (ps.take k) most).length ((routerL (ps.take k) most).flatMap linkCells) ∧ (∀ b, b < w0.heap.size → b ≠ w.heap.size + 1 + 1 → wr.heap[b]? = w0.heap[b]?) ∧ Below w.heap.size w wr ∧ w0.heap.size ≤ wr.heap.size)
      case atStart => exact ⟨0, .slice none 0 0, Nat.zero_le _, rfl, rfl, hT, World.ownsRow_nil _ _ _ _, hsame.out, hB, hz⟩
      case round =>
        obtain ⟨k, lv, hk, rfl, rfl, hT, ho, hsame, hB, hz⟩ := hrel
        obtain ⟨w2, rfl⟩ : ∃ x : World, x = wr := ⟨_, rfl⟩
        obtain ⟨_, Al, cl, rfl, _⟩ := Sl.of_own ho
        by_cases hkl : k < ps.length
        · have hl1 := hlen.out k (by omega)
          have hl2 := linksL_len ps[k] most
          have hrs := routerL_succ hkl most
          have hpk := hp.out.2 _ (List.getElem_mem hkl)
          obtain ⟨b, off, rfl, hb, hrow⟩ := Sl.row portCells_len (hp.out.1.below hB) hkl
          obtain ⟨p, hpe⟩ : ∃ p, p = ps[k] := ⟨_, rfl⟩
          rw [← hpe] at hrow hl2 hrs hpk
          obtain ⟨hpf, hpn, hpb, hpb', hpkind⟩ := hpk
          have hpv := hpf
          obtain ⟨_, Af, cf, hfv, _⟩ := hpf
          have q0 := hrow 0 _ rfl
          have q1 := hrow 1 _ rfl
          have q2 := hrow 2 _ rfl
          have q3 := hrow 3 _ rfl
          have q4 := hrow 4 _ rfl
          have q5 := hrow 5 _ rfl
          have q6 := hrow 6 _ rfl
          have q7 := hrow 7 _ rfl
          have q8 := hrow 8 _ rfl
          have q9 := hrow 9 _ rfl
          simp only [Nat.add_zero] at q0
          rw [hfv] at q8
          replace hrs := Lib.hid hrs
          replace hpv := Lib.hid hpv
          have hne : w2.heap.size ≠ w.heap.size + 1 + 1 := by omega
          have hzt : w.heap.size ≤ w.heap.size + 1 + 1 := by omega
          have hSa : (RouterS w w0 (w.heap.size + 1 + 1) w2.heap.size #[.int .u8 p.kind, .int .u8 p.state, .int .u32 p.addr, .int .u32 p.netA, .int .u8 p.netB, .int .u16 p.cost, .int .u32 p.dr, .bool p.withDR, .slice Af p.full.length cf, .int .u32 p.remote]) (w2.alloc (.cells #[.int .u8 p.kind, .int .u8 p.state, .int .u32 p.addr, .int .u32 p.netA, .int .u8 p.netB, .int .u16 p.cost, .int .u32 p.dr, .bool p.withDR, .slice Af p.full.length cf, .int .u32 p.remote] 73)) := ⟨fun b hb hbt => (Below.heap_alloc w2 _ b (by omega)).trans (hsame b hb hbt), Blk.new w2 _ _, hB.alloc hB.size _⟩
          have HL : Hid (∀ W, (RouterS w w0 (w.heap.size + 1 + 1) w2.heap.size #[.int .u8 p.kind, .int .u8 p.state, .int .u32 p.addr, .int .u32 p.netA, .int .u8 p.netB, .int .u16 p.cost, .int .u32 p.dr, .bool p.withDR, .slice Af p.full.length cf, .int .u32 p.remote]) W → w0.heap.size ≤ W.heap.size → Calls Try.prog 24 #[.agg #[.int .u8 p.kind, .int .u8 p.state, .int .u32 p.addr, .int .u32 p.netA, .int .u8 p.netB, .int .u16 p.cost, .int .u32 p.dr, .bool p.withDR, .slice Af p.full.length cf, .int .u32 p.remote], .bool most] W (LinksPost W (linksL p most))) := fun W h _ => by
            have hbW := h.below
            have := links_any p most W ⟨(hpv.out.below hbW).more hbW.size, hpn, hpb, hpb'⟩ hpkind
            simpa only [portVal, hfv] using this
          have hm5 : ∀ W, (RouterS w w0 (w.heap.size + 1 + 1) w2.heap.size #[.int .u8 p.kind, .int .u8 p.state, .int .u32 p.addr, .int .u32 p.netA, .int .u8 p.netB, .int .u16 p.cost, .int .u32 p.dr, .bool p.withDR, .slice Af p.full.length cf, .int .u32 p.remote]) W → W.cell? ⟨w.heap.size, 5, none⟩ = some (.bool most) := fun W h => (k0.same (h.same _ (by omega) (by omega))).cell 5
          have b0 : ∀ W, (RouterS w w0 (w.heap.size + 1 + 1) w2.heap.size #[.int .u8 p.kind, .int .u8 p.state, .int .u32 p.addr, .int .u32 p.netA, .int .u8 p.netB, .int .u16 p.cost, .int .u32 p.dr, .bool p.withDR, .slice Af p.full.length cf, .int .u32 p.remote]) W → W.cell? ⟨w2.heap.size, 0, none⟩ = some (.int .u8 p.kind) := fun W h => h.port.cell 0
          have b1 : ∀ W, (RouterS w w0 (w.heap.size + 1 + 1) w2.heap.size #[.int .u8 p.kind, .int .u8 p.state, .int .u32 p.addr, .int .u32 p.netA, .int .u8 p.netB, .int .u16 p.cost, .int .u32 p.dr, .bool p.withDR, .slice Af p.full.length cf, .int .u32 p.remote]) W → W.cell? ⟨w2.heap.size, 1, none⟩ = some (.int .u8 p.state) := fun W h => h.port.cell 1
          have b2 : ∀ W, (RouterS w w0 (w.heap.size + 1 + 1) w2.heap.size #[.int .u8 p.kind, .int .u8 p.state, .int .u32 p.addr, .int .u32 p.netA, .int .u8 p.netB, .int .u16 p.cost, .int .u32 p.dr, .bool p.withDR, .slice Af p.full.length cf, .int .u32 p.remote]) W → W.cell? ⟨w2.heap.size, 2, none⟩ = some (.int .u32 p.addr) := fun W h => h.port.cell 2
          have b3 : ∀ W, (RouterS w w0 (w.heap.size + 1 + 1) w2.heap.size #[.int .u8 p.kind, .int .u8 p.state, .int .u32 p.addr, .int .u32 p.netA, .int .u8 p.netB, .int .u16 p.cost, .int .u32 p.dr, .bool p.withDR, .slice Af p.full.length cf, .int .u32 p.remote]) W → W.cell? ⟨w2.heap.size, 3, none⟩ = some (.int .u32 p.netA) := fun W h => h.port.cell 3
          have b4 : ∀ W, (RouterS w w0 (w.heap.size + 1 + 1) w2.heap.size #[.int .u8 p.kind, .int .u8 p.state, .int .u32 p.addr, .int .u32 p.netA, .int .u8 p.netB, .int .u16 p.cost, .int .u32 p.dr, .bool p.withDR, .slice Af p.full.length cf, .int .u32 p.remote]) W → W.cell? ⟨w2.heap.size, 4, none⟩ = some (.int .u8 p.netB) := fun W h => h.port.cell 4
          have b5 : ∀ W, (RouterS w w0 (w.heap.size + 1 + 1) w2.heap.size #[.int .u8 p.kind, .int .u8 p.state, .int .u32 p.addr, .int .u32 p.netA, .int .u8 p.netB, .int .u16 p.cost, .int .u32 p.dr, .bool p.withDR, .slice Af p.full.length cf, .int .u32 p.remote]) W → W.cell? ⟨w2.heap.size, 5, none⟩ = some (.int .u16 p.cost) := fun W h => h.port.cell 5
          have b6 : ∀ W, (RouterS w w0 (w.heap.size + 1 + 1) w2.heap.size #[.int .u8 p.kind, .int .u8 p.state, .int .u32 p.addr, .int .u32 p.netA, .int .u8 p.netB, .int .u16 p.cost, .int .u32 p.dr, .bool p.withDR, .slice Af p.full.length cf, .int .u32 p.remote]) W → W.cell? ⟨w2.heap.size, 6, none⟩ = some (.int .u32 p.dr) := fun W h => h.port.cell 6
          have b7 : ∀ W, (RouterS w w0 (w.heap.size + 1 + 1) w2.heap.size #[.int .u8 p.kind, .int .u8 p.state, .int .u32 p.addr, .int .u32 p.netA, .int .u8 p.netB, .int .u16 p.cost, .int .u32 p.dr, .bool p.withDR, .slice Af p.full.length cf, .int .u32 p.remote]) W → W.cell? ⟨w2.heap.size, 7, none⟩ = some (.bool p.withDR) := fun W h => h.port.cell 7
          have b8 : ∀ W, (RouterS w w0 (w.heap.size + 1 + 1) w2.heap.size #[.int .u8 p.kind, .int .u8 p.state, .int .u32 p.addr, .int .u32 p.netA, .int .u8 p.netB, .int .u16 p.cost, .int .u32 p.dr, .bool p.withDR, .slice Af p.full.length cf, .int .u32 p.remote]) W → W.cell? ⟨w2.heap.size, 8, none⟩ = some (.slice Af p.full.length cf) := fun W h => h.port.cell 8
          have b9 : ∀ W, (RouterS w w0 (w.heap.size + 1 + 1) w2.heap.size #[.int .u8 p.kind, .int .u8 p.state, .int .u32 p.addr, .int .u32 p.netA, .int .u8 p.netB, .int .u16 p.cost, .int .u32 p.dr, .bool p.withDR, .slice Af p.full.length cf, .int .u32 p.remote]) W → W.cell? ⟨w2.heap.size, 9, none⟩ = some (.int .u32 p.remote) := fun W h => h.port.cell 9
          have hT1 : Blk (w2.alloc (.cells #[.int .u8 p.kind, .int .u8 p.state, .int .u32 p.addr, .int .u32 p.netA, .int .u8 p.netB, .int .u16 p.cost, .int .u32 p.dr, .bool p.withDR, .slice Af p.full.length cf, .int .u32 p.remote] 73)) (w.heap.size + 1 + 1) 34 #[.int .u8 1, .int .u32 router, .int .u8 opts, .int .u8 fl, .slice Al (routerL (List.take k ps) most).length cl, .int .u32 0, .slice none 0 0, .int .u32 0, .bool false, .int .u32 0, .int .u32 0, .slice none 0 0] := hT.alloc _
          have ho1 : (w2.alloc (.cells #[.int .u8 p.kind, .int .u8 p.state, .int .u32 p.addr, .int .u32 p.netA, .int .u8 p.netB, .int .u16 p.cost, .int .u32 p.dr, .bool p.withDR, .slice Af p.full.length cf, .int .u32 p.remote] 73)).ownsRow w0.heap.size 42 4 (.slice Al (routerL (List.take k ps) most).length cl) (routerL (List.take k ps) most).length ((routerL (List.take k ps) most).flatMap linkCells) := ho.alloc _
          have hzW : (w2.alloc (.cells #[.int .u8 p.kind, .int .u8 p.state, .int .u32 p.addr, .int .u32 p.netA, .int .u8 p.netB, .int .u16 p.cost, .int .u32 p.dr, .bool p.withDR, .slice Af p.full.length cf, .int .u32 p.remote] 73)).heap.size = w2.heap.size + 1 := by simp
          clear hrow hpe
          go_wp2_with fail
          generalize (w2.alloc (.cells #[.int .u8 p.kind, .int .u8 p.state, .int .u32 p.addr, .int .u32 p.netA, .int .u8 p.netB, .int .u16 p.cost, .int .u32 p.dr, .bool p.withDR, .slice Af p.full.length cf, .int .u32 p.remote] 73)) = wa at *
          have t4 := hT1.cell 4
          replace ho1 := Lib.hid ho1
          replace hT1 := Lib.hid hT1
          obtain ⟨L, hL9⟩ : ∃ L, L = routerL (List.take k ps) most := ⟨_, rfl⟩
          rw [← hL9] at ho1 hT1 t4 hl1 hrs
          replace hL9 := Lib.hid hL9
          have hza : w0.heap.size ≤ wa.heap.size := by omega
          have e0 := b0 wa hSa
          have e1 := b1 wa hSa
          have e2 := b2 wa hSa
          have e3 := b3 wa hSa
          have e4 := b4 wa hSa
          have e5 := b5 wa hSa
          have e6 := b6 wa hSa
          have e7 := b7 wa hSa
          have e8 := b8 wa hSa
          have e9 := b9 wa hSa
          have e10 := hm5 wa hSa
          clear b0 b1 b2 b3 b4 b5 b6 b7 b8 b9 hm5
          go_region_law
            (first
              | (go_simp; go_at_call 24; refine Calls.mono (HL.out _ hSa.drew (by simp; omega)) ?_; rintro e wb ⟨v1, rfl, hob1, hBb⟩; replace hBb : Below wa.heap.size wa wb := below_of_drew hBb; obtain ⟨_, A1, c1, rfl, _⟩ := Sl.of_own hob1; have hSb : (RouterS w w0 (w.heap.size + 1 + 1) w2.heap.size #[.int .u8 p.kind, .int .u8 p.state, .int .u32 p.addr, .int .u32 p.netA, .int .u8 p.netB, .int .u16 p.cost, .int .u32 p.dr, .bool p.withDR, .slice Af p.full.length cf, .int .u32 p.remote]) wb := RouterS.on hSa hza hBb; have hTb : Blk wb (w.heap.size + 1 + 1) 34 #[.int .u8 1, .int .u32 router, .int .u8 opts, .int .u8 fl, .slice Al L.length cl, .int .u32 0, .slice none 0 0, .int .u32 0, .bool false, .int .u32 0, .int .u32 0, .slice none 0 0] := hT1.out.below hBb hT1.out.lt; have t4b := hTb.cell 4; have f4b := hTb.free 4; have hobs : wb.ownsRow w0.heap.size 42 4 (.slice Al L.length cl) L.length (L.flatMap linkCells) := own_same ho1.out (fun g hg => hBb.block g (ho1.out.lt g hg).2); have hzb : wa.heap.size ≤ wb.heap.size := hBb.size; dsimp only)
              | (refine step_append rfl (.tmp 52) (.tmp 56) 28 rfl w0.heap.size linkT (.slice Al L.length cl) _ _ rfl hobs _ _ _ _ rfl (Sl.of_own hob1) links_oneCell (by simp only [maxLen]; omega) (by omega) (by omega) ?_; intro v3 w3 ho3 hg3 hob3; obtain ⟨_, A3, c3, rfl, _⟩ := Sl.of_own ho3; have hT3 : Blk w3 (w.heap.size + 1 + 1) 34 #[.int .u8 1, .int .u32 router, .int .u8 opts, .int .u8 fl, .slice Al L.length cl, .int .u32 0, .slice none 0 0, .int .u32 0, .bool false, .int .u32 0, .int .u32 0, .slice none 0 0] := hTb.same (hg3.block _ hTb.lt (fun e => by have := (hobs.lt _ e.symm).1; omega)); have t4c := hT3.cell 4; have f4c := hT3.free 4))
          all_goals
            have hB3 : Below w.heap.size w w3 := hSb.below.trans (below_of_grown hg3 (by omega) (fun g hg => by have := (hobs.lt g hg).1; omega))
            have hsame3 : ∀ b, b < w0.heap.size → b ≠ w.heap.size + 1 + 1 → w3.heap[b]? = w0.heap[b]? := fun b hb hbt => (hg3.block b (by omega) (fun e => by have := (hobs.lt b e.symm).1; omega)).trans (hSb.same b hb hbt)
            replace hsame3 := Lib.hid hsame3
            have hz3 := hg3.size
            go_wp2
            go_roundg (ps.length - (k + 1))
            case measure => omega
            case rel =>
              refine ⟨k + 1, .slice A3 (L.length + (linksL p most).length) c3, by omega, rfl, by go_num, hT3.set_ 4 _, ?_, fun b hb hbt => (Below.heap_setCell w3 ⟨w.heap.size + 1 + 1, 4, none⟩ _ b hbt).trans (hsame3.out b hb hbt), ?_, ?_⟩
              · rw [hrs.out, List.length_append, List.flatMap_append]
                exact own_same ho3 fun g hg => Below.heap_setCell w3 ⟨w.heap.size + 1 + 1, 4, none⟩ _ g (fun e => by have h1 := (ho3.lt g hg).1; have h2 : g = w.heap.size + 1 + 1 := e; omega)
              · first
                  | exact Below.setCell hB3 (p := ⟨w.heap.size + 1 + 1, 4, none⟩) hzt _
                  | exact (Below.setCell hB3 (p := ⟨w.heap.size + 1 + 1, 4, none⟩) hzt _).drew
              · simp; omega
        · obtain rfl : k = ps.length := by omega
          rw [List.take_length] at ho hT
          have z0 := hT.cell 0
          have z1 := hT.cell 1
          have z2 := hT.cell 2
          have z3 := hT.cell 3
          have z4 := hT.cell 4
          have z5 := hT.cell 5
          have z6 := hT.cell 6
          have z7 := hT.cell 7
          have z8 := hT.cell 8
          have z9 := hT.cell 9
          have z10 := hT.cell 10
          have z11 := hT.cell 11
          have hR := k1.same (w' := w2) (hsame _ (by omega) (by omega))
          go_wp2_with (refine wpList_store_row rfl 34 (.tmp 4) (.tmp 61) rfl (w.heap.size + 1) #[.int .u8 1, .int .u32 router, .int .u8 opts, .int .u8 fl, .slice Al (routerL ps most).length cl, .int .u32 0, .slice none 0 0, .int .u32 0, .bool false, .int .u32 0, .int .u32 0, .slice none 0 0] rfl rfl 34 _ hR (by kernel_rfl) rfl (by simp [Value.oneCell']) ?_)
          have hset := setRow_heap w2 (w.heap.size + 1) _ #[.int .u8 1, .int .u32 router, .int .u8 opts, .int .u8 fl, .slice Al (routerL ps most).length cl, .int .u32 0, .slice none 0 0, .int .u32 0, .bool false, .int .u32 0, .int .u32 0, .slice none 0 0] 34 (0, 0) hR
          refine bodyPost_ret (results_cell_row rfl _ _ (w.heap.size + 1) 34 #[.int .u8 1, .int .u32 router, .int .u8 opts, .int .u8 fl, .slice Al (routerL ps most).length cl, .int .u32 0, .slice none 0 0, .int .u32 0, .bool false, .int .u32 0, .int .u32 0, .slice none 0 0] (0, 0) _ rfl hset Try.underlying34 rfl (by kernel_rfl)) rfl ?_
          refine ⟨.slice Al (routerL ps most).length cl, by rw [hfl.out], own_less (own_same ho fun k hk => setRow_other w2 _ k _ (by have := (ho.lt k hk).1; omega)) (by omega), hB.trans ⟨rfl, rfl, rfl, by simp [World.setRow], fun k hk => setRow_other w2 _ k _ (by omega)⟩⟩
end Go.Proofs.Ytdilbcmnfpmijaa
