/- origin's Port: what each kind of network says. Conditions: the port's full neighbours lie in memory. -/
import Derived.Test.YtdilbcmnfpmijaaOriA
namespace Go.Proofs.Ytdilbcmnfpmijaa
open Go.RowKit Go.Lo

structure OPort where
  kind : Int
  state : Int
  addr : Int
  netA : Int
  netB : Int
  cost : Int
  dr : Int
  withDR : Bool
  fv : Value
  full : List Int
  remote : Int
def portCells (p : OPort) : List Value := [.int .u8 p.kind, .int .u8 p.state, .int .u32 p.addr, .int .u32 p.netA, .int .u8 p.netB, .int .u16 p.cost, .int .u32 p.dr, .bool p.withDR, p.fv, .int .u32 p.remote]
theorem portCells_len (p : OPort) : (portCells p).length = 10 := rfl
abbrev portVal (p : OPort) : Value := .agg #[.int .u8 p.kind, .int .u8 p.state, .int .u32 p.addr, .int .u32 p.netA, .int .u8 p.netB, .int .u16 p.cost, .int .u32 p.dr, .bool p.withDR, p.fv, .int .u32 p.remote]
def u32Cells (n : Int) : List Value := [.int .u32 n]
theorem u32Cells_len (n : Int) : (u32Cells n).length = 1 := rfl
/-- id, data, kind, cost -/
abbrev OLink := Int × Int × Int × Int
def linkCells (l : OLink) : List Value := [.int .u32 l.1, .int .u32 l.2.1, .int .u8 l.2.2.1, .int .u16 l.2.2.2]
theorem linkCells_len (l : OLink) : (linkCells l).length = 4 := rfl
theorem below_twin {A : World} {B : Nat} (hB : B ≤ A.heap.size) (X Y : Obj) : Below B (A.alloc X) (A.alloc Y) :=
  ⟨rfl, rfl, rfl, by simp, fun k hk => (Below.heap_alloc A Y k (by omega)).trans (Below.heap_alloc A X k (by omega)).symm⟩
def stubL (p : OPort) : OLink := (p.netA, maskI p.netB, 3, p.cost)

theorem linkT : ElT Try.prog 28 42 4 12 := ⟨by kernel_rfl, by
  obtain ⟨i, hi, h1, h2, h3⟩ := info_parts (show (Try.prog.info? 42).map (fun i => (i.zero, i.size, i.bytes)) = some (some (.agg #[.int .u32 0, .int .u32 0, .int .u8 0, .int .u16 0]), 4, 12) by kernel_rfl)
  exact ⟨i, _, hi, h1, h2, h3, rfl⟩, by omega⟩

set_option maxRecDepth 100000 in
set_option maxHeartbeats 1000000 in
theorem stub_any (p : OPort) (hb : 0 ≤ p.netB ∧ p.netB ≤ 255) (w : World) : Calls Try.prog 34 #[portVal p] w fun e w' =>
    e = .returned (.agg #[.int .u32 p.netA, .int .u32 (maskI p.netB), .int .u8 3, .int .u16 p.cost]) ∧ Below w.heap.size w w' := by
  obtain ⟨kind, state, addr, netA, netB, cost, dr, withDR, fv, full, remote⟩ := p
  go_enter Try.func34, Try.ntmps34
  go_wp2
  have c3 : ∀ W, Below (w.heap.size + 1) ((w.alloc (.cells #[.int .u8 kind, .int .u8 state, .int .u32 addr, .int .u32 netA, .int .u8 netB, .int .u16 cost, .int .u32 dr, .bool withDR, fv, .int .u32 remote] 73)).alloc (.cells #[.int .u32 0, .int .u32 0, .int .u8 0, .int .u16 0] 42)) W → W.cell? ⟨w.heap.size, 3, none⟩ = some (.int .u32 netA) := fun W h => (h.cell (p := ⟨w.heap.size, 3, none⟩) (Nat.lt_succ_self _)).trans (by go_simp)
  have c4 : ∀ W, Below (w.heap.size + 1) ((w.alloc (.cells #[.int .u8 kind, .int .u8 state, .int .u32 addr, .int .u32 netA, .int .u8 netB, .int .u16 cost, .int .u32 dr, .bool withDR, fv, .int .u32 remote] 73)).alloc (.cells #[.int .u32 0, .int .u32 0, .int .u8 0, .int .u16 0] 42)) W → W.cell? ⟨w.heap.size, 4, none⟩ = some (.int .u8 netB) := fun W h => (h.cell (p := ⟨w.heap.size, 4, none⟩) (Nat.lt_succ_self _)).trans (by go_simp)
  have c5 : ∀ W, Below (w.heap.size + 1) ((w.alloc (.cells #[.int .u8 kind, .int .u8 state, .int .u32 addr, .int .u32 netA, .int .u8 netB, .int .u16 cost, .int .u32 dr, .bool withDR, fv, .int .u32 remote] 73)).alloc (.cells #[.int .u32 0, .int .u32 0, .int .u8 0, .int .u16 0] 42)) W → W.cell? ⟨w.heap.size, 5, none⟩ = some (.int .u16 cost) := fun W h => (h.cell (p := ⟨w.heap.size, 5, none⟩) (Nat.lt_succ_self _)).trans (by go_simp)
  go_region_held3 (fun W => Below (w.heap.size + 1) ((w.alloc (.cells #[.int .u8 kind, .int .u8 state, .int .u32 addr, .int .u32 netA, .int .u8 netB, .int .u16 cost, .int .u32 dr, .bool withDR, fv, .int .u32 remote] 73)).alloc (.cells #[.int .u32 0, .int .u32 0, .int .u8 0, .int .u16 0] 42)) W) (first | exact (Below.refl _ _).drew | assumption | exact Below.refl _ _ | exact (below_twin (by simp) _ _).drew)
    ((go_at_call 36; refine Calls.mono (mask_any _ hb _) ?_; rintro e w' ⟨rfl, rfl⟩))
  go_wp2
  refine bodyPost_ret (results_cell_row rfl _ _ (w.heap.size + 1) 42 #[.int .u32 netA, .int .u32 (maskI netB), .int .u8 3, .int .u16 cost] (0, 0) _ rfl (heap_alloc2_new w _ _) Try.underlying42 rfl (by kernel_rfl)) rfl ?_
  exact ⟨rfl, (((Below.refl _ _).alloc (Nat.le_refl _) _).alloc (by simp) _).drew⟩

theorem u32T : ElT Try.prog 29 22 1 4 := ⟨by kernel_rfl, by
  obtain ⟨i, hi, h1, h2, h3⟩ := info_parts (show (Try.prog.info? 22).map (fun i => (i.zero, i.size, i.bytes)) = some (some (.int .u32 0), 1, 4) by kernel_rfl)
  exact ⟨i, _, hi, h1, h2, h3, rfl⟩, by omega⟩

/-- a list of links as the callee hands it back -/
def LinksPost (w : World) (l : List OLink) (e : Ending) (w' : World) : Prop :=
  ∃ v, e = .returned v ∧ w'.ownsRow w.heap.size 42 4 v l.length (l.flatMap linkCells) ∧ Below w.heap.size w w'
def toL (p : OPort) (t cost : Int) (f : Int → Bool) (full : List Int) : List OLink := (full.filter f).map fun id => (id, p.addr, t, cost)
theorem toL_succ (p : OPort) (t cost : Int) (f : Int → Bool) {full : List Int} {k : Nat} (h : k < full.length) : toL p t cost f (full.take (k + 1)) = toL p t cost f (full.take k) ++ (if f full[k] then [(full[k], p.addr, t, cost)] else []) := by
  unfold toL
  rw [List.take_succ_eq_append_getElem h, List.filter_append, List.map_append]
  congr 1
  by_cases hf : f full[k] = true
  · simp [hf]
  · simp [hf]

theorem all_any (id : Int) (w : World) : Calls Try.prog 67 #[.int .u32 id] w fun e w' => e = .returned (.bool true) ∧ w' = w := by
  go_enter Try.func67, Try.ntmps67
  go_wp2
  go_ret
  exact ⟨rfl, rfl⟩
theorem only_any (id r : Int) (b : Nat) (w : World) (h : w.cell? ⟨b, 9, none⟩ = some (.int .u32 r)) : Calls Try.prog 68 #[.int .u32 id, .pointer (some ⟨b, 0, none⟩)] w fun e w' => e = .returned (.bool (id == r)) ∧ w' = w := by
  go_enter Try.func68, Try.ntmps68
  go_wp2
  go_ret
  exact ⟨rfl, rfl⟩

/-- the links so far -/
structure ToSeq (p : OPort) (t cost : Int) (f : Int → Bool) (L : Nat → List OLink) : Prop where
  zero : L 0 = []
  succ : ∀ k (h : k < p.full.length), L (k + 1) = L k ++ (if f p.full[k] then [(p.full[k], p.addr, t, cost)] else [])
  bound : ∀ k, (L k).length ≤ k
  all : L p.full.length = toL p t cost f p.full
theorem toSeq (p : OPort) (t cost : Int) (f : Int → Bool) : ToSeq p t cost f (fun k => toL p t cost f (p.full.take k)) where
  zero := rfl
  succ := fun _ h => toL_succ p t cost f h
  bound := fun k => by
    show (toL p t cost f (p.full.take k)).length ≤ k
    unfold toL
    rw [List.length_map]
    exact Nat.le_trans (List.length_filter_le _ _) (by simp; omega)
  all := by
    show toL p t cost f (p.full.take p.full.length) = _
    rw [List.take_length]

set_option maxRecDepth 100000 in
set_option maxHeartbeats 1000000 in
theorem to_all (p : OPort) (t cost : Int) (w : World) (hs : Sl w w.heap.size 1 p.fv p.full.length (p.full.flatMap u32Cells)) (hn : p.full.length ≤ 1000000) :
    Calls Try.prog 66 #[portVal p, .int .u8 t, .int .u16 cost, .func (.func 67) #[] #[]] w (LinksPost w (toL p t cost (fun _ => true) p.full)) := by
  obtain ⟨L, hL⟩ : ∃ L, ToSeq p t cost (fun _ => true) L := ⟨_, toSeq p t cost _⟩
  obtain ⟨hL0, hLs, hLb, hLa⟩ := hL
  have hs0 := hs
  obtain ⟨_, A, c, hv, _⟩ := hs
  obtain ⟨kind, state, addr, netA, netB, pcost, dr, withDR, fv, full, remote⟩ := p
  simp only at hs0 hn hv hLs hLa
  subst hv
  rw [← hLa]
  replace hLs := Lib.hid hLs
  replace hLb := Lib.hid hLb
  clear hLa
  go_enter Try.func66, Try.ntmps66
  go_wp2_with fail
  go_loopg [9, 15] full.length (fun m v i wr => ∃ k : Nat, k ≤ full.length ∧ m = full.length - k ∧ i = .int .i64 k ∧ wr.ownsRow w.heap.size 42 4 v (L k).length ((L k).flatMap linkCells) ∧ Below (w.heap.size + 1) (w.alloc (.cells #[.int .u8 kind, .int .u8 state, .int .u32 addr, .int .u32 netA, .int .u8 netB, .int .u16 pcost, .int .u32 dr, .bool withDR, .slice A full.length c, .int .u32 remote] 73)) wr ∧ ∀ g, v.ownBlock = some g → w.heap.size + 1 ≤ g)
  case atStart => exact ⟨0, Nat.zero_le _, rfl, rfl, by rw [hL0]; exact World.ownsRow_nil _ _ _ _, Below.refl _ _, by simp [Value.ownBlock]⟩
  case round =>
    obtain ⟨k, hk, rfl, rfl, ho, hB, hgb⟩ := hrel
    obtain ⟨w1, rfl⟩ : ∃ x : World, x = wr := ⟨_, rfl⟩
    replace hgb := Lib.hid hgb
    have hz := hB.size
    have hz' : w.heap.size + 1 ≤ w1.heap.size := by simpa using hz
    replace hz := hz'
    clear hz'
    by_cases hkl : k < full.length
    · obtain ⟨b, off, rfl, hb, hrow⟩ := Sl.row u32Cells_len hs0 hkl
      have h0 := hrow 0 _ rfl
      simp only [Nat.mul_one, Nat.add_zero] at h0
      have h1 := (hB.cell (p := ⟨b, off + k, none⟩) (show b < w.heap.size + 1 by omega)).trans ((World.cell?_alloc_lt _ _ ⟨b, off + k, none⟩ hb).trans h0)
      have h2 : w1.cell? ⟨w.heap.size, 2, none⟩ = some (.int .u32 addr) := (hB.cell (p := ⟨w.heap.size, 2, none⟩) (Nat.lt_succ_self _)).trans ((World.cell?_alloc_at _ _ _ _ rfl).trans rfl)
      clear hrow h0
      go_wp2_with (first
        | (go_at_call 67; refine Calls.mono (all_any _ _) ?_; rintro e w' ⟨rfl, rfl⟩)
        | (at_builtin; refine wpList_append rfl (.tmp 22) (.tmp 29) 28 rfl w.heap.size linkT u9 _ _ rfl (ho.alloc _) _ _ 1 (linkCells (full[k], addr, t, cost)) rfl (Sl.lit _ #[.int .u32 full[k], .int .u32 addr, .int .u8 t, .int .u16 cost] 42 (by simp [maxLen]) rfl) (by simp [linkCells, Value.oneCell']) (by have := hLb.out k; simp only [maxLen]; omega) (by have := hLb.out k; omega) (by simp; omega) ?_; intro v4 w4 hown4 hgr4 hob4))
      have hB4 := (hB.alloc hz _).trans (below_of_grown hgr4 (by simp; omega) (fun g hg => hgb.out g hg))
      go_wp2
      go_roundg (full.length - (k + 1))
      case measure => omega
      case rel =>
        refine ⟨k + 1, by omega, rfl, by go_num, ?_, hB4, ?_⟩
        · rw [hLs.out k hkl]
          simpa using hown4
        · intro g hg
          rcases hob4 with h | h
          · exact hgb.out g (by rw [← h]; exact hg)
          · rw [hg] at h
            have := Option.some.inj h
            rw [this]
            simp; omega
    · obtain rfl : k = full.length := by omega
      go_wp2
      go_ret
      exact ⟨_, rfl, ho, Below.trans ((Below.refl _ _).alloc (Nat.le_refl _) _) (hB.mono (by omega))⟩

set_option maxRecDepth 100000 in
set_option maxHeartbeats 1000000 in
theorem to_only (p : OPort) (t cost : Int) (r : Int) (rb : Nat) (w : World) (hs : Sl w w.heap.size 1 p.fv p.full.length (p.full.flatMap u32Cells)) (hn : p.full.length ≤ 1000000) (hrb : rb < w.heap.size) (hr9 : w.cell? ⟨rb, 9, none⟩ = some (.int .u32 r)) :
    Calls Try.prog 66 #[portVal p, .int .u8 t, .int .u16 cost, .func (.func 68) #[] #[.pointer (some ⟨rb, 0, none⟩)]] w (LinksPost w (toL p t cost (fun id => id == r) p.full)) := by
  obtain ⟨L, hL⟩ : ∃ L, ToSeq p t cost (fun id => id == r) L := ⟨_, toSeq p t cost _⟩
  obtain ⟨hL0, hLs, hLb, hLa⟩ := hL
  have hs0 := hs
  obtain ⟨_, A, c, hv, _⟩ := hs
  obtain ⟨kind, state, addr, netA, netB, pcost, dr, withDR, fv, full, remote⟩ := p
  simp only at hs0 hn hv hLs hLa
  subst hv
  rw [← hLa]
  replace hLs := Lib.hid hLs
  replace hLb := Lib.hid hLb
  clear hLa
  go_enter Try.func66, Try.ntmps66
  go_wp2_with fail
  go_loopg [9, 15] full.length (fun m v i wr => ∃ k : Nat, k ≤ full.length ∧ m = full.length - k ∧ i = .int .i64 k ∧ wr.ownsRow w.heap.size 42 4 v (L k).length ((L k).flatMap linkCells) ∧ Below (w.heap.size + 1) (w.alloc (.cells #[.int .u8 kind, .int .u8 state, .int .u32 addr, .int .u32 netA, .int .u8 netB, .int .u16 pcost, .int .u32 dr, .bool withDR, .slice A full.length c, .int .u32 remote] 73)) wr ∧ ∀ g, v.ownBlock = some g → w.heap.size + 1 ≤ g)
  case atStart => exact ⟨0, Nat.zero_le _, rfl, rfl, by rw [hL0]; exact World.ownsRow_nil _ _ _ _, Below.refl _ _, by simp [Value.ownBlock]⟩
  case round =>
    obtain ⟨k, hk, rfl, rfl, ho, hB, hgb⟩ := hrel
    obtain ⟨w1, rfl⟩ : ∃ x : World, x = wr := ⟨_, rfl⟩
    replace hgb := Lib.hid hgb
    have hz := hB.size
    have hz' : w.heap.size + 1 ≤ w1.heap.size := by simpa using hz
    replace hz := hz'
    clear hz'
    by_cases hkl : k < full.length
    · obtain ⟨b, off, rfl, hb, hrow⟩ := Sl.row u32Cells_len hs0 hkl
      have h0 := hrow 0 _ rfl
      simp only [Nat.mul_one, Nat.add_zero] at h0
      have h1 := (hB.cell (p := ⟨b, off + k, none⟩) (show b < w.heap.size + 1 by omega)).trans ((World.cell?_alloc_lt _ _ ⟨b, off + k, none⟩ hb).trans h0)
      have h2 : w1.cell? ⟨w.heap.size, 2, none⟩ = some (.int .u32 addr) := (hB.cell (p := ⟨w.heap.size, 2, none⟩) (Nat.lt_succ_self _)).trans ((World.cell?_alloc_at _ _ _ _ rfl).trans rfl)
      clear hrow h0
      have h9 : w1.cell? ⟨rb, 9, none⟩ = some (.int .u32 r) := (hB.cell (p := ⟨rb, 9, none⟩) (show rb < w.heap.size + 1 by omega)).trans ((World.cell?_alloc_lt _ _ ⟨rb, 9, none⟩ hrb).trans hr9)
      by_cases hid : full[k] = r
      · replace hid := Lib.hid hid
        go_wp2_with (first
          | (go_at_call 68; refine Calls.mono (only_any _ r rb _ (by assumption)) ?_; rintro e w' ⟨rfl, rfl⟩; rw [show (full[k] == r) = true from beq_iff_eq.2 hid.out])
          | (at_builtin; refine wpList_append rfl (.tmp 22) (.tmp 29) 28 rfl w.heap.size linkT u9 _ _ rfl (ho.alloc _) _ _ 1 (linkCells (full[k], addr, t, cost)) rfl (Sl.lit _ #[.int .u32 full[k], .int .u32 addr, .int .u8 t, .int .u16 cost] 42 (by simp [maxLen]) rfl) (by simp [linkCells, Value.oneCell']) (by have := hLb.out k; simp only [maxLen]; omega) (by have := hLb.out k; omega) (by simp; omega) ?_; intro v4 w4 hown4 hgr4 hob4))
        have hB4 := (hB.alloc hz _).trans (below_of_grown hgr4 (by simp; omega) (fun g hg => hgb.out g hg))
        go_wp2
        go_roundg (full.length - (k + 1))
        case measure => omega
        case rel =>
          refine ⟨k + 1, by omega, rfl, by go_num, ?_, hB4, ?_⟩
          · rw [hLs.out k hkl]
            simpa [hid.out] using hown4
          · intro g hg
            rcases hob4 with h | h
            · exact hgb.out g (by rw [← h]; exact hg)
            · rw [hg] at h
              have := Option.some.inj h
              rw [this]
              simp; omega
      · replace hid := Lib.hid hid
        go_wp2_with (go_at_call 68; refine Calls.mono (only_any _ r rb _ (by assumption)) ?_; rintro e w' ⟨rfl, rfl⟩; rw [show (full[k] == r) = false from beq_eq_false_iff_ne.2 hid.out])
        go_roundg (full.length - (k + 1))
        case measure => omega
        case rel => exact ⟨k + 1, by omega, rfl, by go_num, by rw [hLs.out k hkl]; simpa [hid.out] using ho, hB, hgb.out⟩
    · obtain rfl : k = full.length := by omega
      go_wp2
      go_ret
      exact ⟨_, rfl, ho, Below.trans ((Below.refl _ _).alloc (Nat.le_refl _) _) (hB.mono (by omega))⟩

end Go.Proofs.Ytdilbcmnfpmijaa
