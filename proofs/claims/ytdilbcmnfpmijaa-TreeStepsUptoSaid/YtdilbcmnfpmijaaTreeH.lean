/- tree.Join, and what the laws of layer 17 do with hops. -/
import Derived.Test.YtdilbcmnfpmijaaTreeA
import Derived.Test.YtdilbcmnfpmijaaLib2
import Derived.Test.YtdilbcmnfpmijaaSpread
namespace Go.Proofs.Ytdilbcmnfpmijaa
open Go.RowKit Go.Lo

theorem hopVal {w : World} {base : Nat} {v : Value} {n : Nat} {xs : List Value} {e : TypeId} {s : Nat} (h : w.ownsRow base e s v n xs) : ∃ A c, v = .slice A n c := by
  obtain ⟨_, A, c, h, _⟩ := Sl.of_own h
  exact ⟨A, c, h⟩
theorem sl_notown {w : World} {B s n : Nat} {v : Value} {xs : List Value} {q : Nat} (h : Sl w B s v n xs) (hn : 0 < n) (hv : v.ownBlock = some q) : q < B := by
  obtain ⟨_, A, c, rfl, _, _, hat⟩ := h
  obtain ⟨b, off, rfl, hb, _⟩ := hat hn
  injection hv with hv
  rw [← hv]; exact hb

/-- what a function that makes a list of hops hands back -/
def HopsPost (w : World) (l : List Hop) (e : Ending) (w' : World) : Prop :=
  ∃ v, e = .returned v ∧ w'.ownsRow w.heap.size 64 3 v l.length (l.flatMap hopCells) ∧ Below w.heap.size w w'

set_option maxHeartbeats 400000 in
theorem join_any (a b : List Hop) (av bv : Value) (w : World) (ha : Sl w w.heap.size 3 av a.length (a.flatMap hopCells)) (hb : Sl w w.heap.size 3 bv b.length (b.flatMap hopCells)) (hn : a.length + b.length ≤ 500000) :
    Calls Try.prog 20 #[av, bv] w (HopsPost w (puts (puts [] a) b)) := by
  go_enter Try.func20, Try.ntmps20
  go_wp2_with fail
  refine Calls.mono (put_any w.heap.size (.slice none 0 0) [] a av _ (Nat.le_refl _) (World.ownsRow_nil _ _ _ _) ha (fun _ => ?_) (by simp; omega)) ?_
  · cases h : av.ownBlock <;> simp [Value.ownBlock]
  rintro e w1 ⟨v1, rfl, ho1, hg1, hob1⟩
  rw [List.take_length] at ho1
  have hl1 := puts_length [] a
  have hB1 : Below w.heap.size w w1 := below_of_grown hg1 (Nat.le_refl _) (by simp [Value.ownBlock])
  go_wp2_with fail
  refine Calls.mono (put_any w.heap.size v1 (puts [] a) b bv _ hB1.size ho1 ((hb.below hB1).more hB1.size) (fun hp => ?_) (by simp at hl1; omega)) ?_
  · cases h : bv.ownBlock with
    | none => exact .inl rfl
    | some q =>
      refine .inr fun h2 => ?_
      have := sl_notown hb hp h
      have := (ho1.lt q h2.symm).1
      omega
  rintro e w2 ⟨v2, rfl, ho2, hg2, hob2⟩
  rw [List.take_length] at ho2
  go_wp2
  go_ret
  exact ⟨v2, rfl, ho2, hB1.trans (below_of_grown hg2 hB1.size (fun g hg => (ho1.lt g hg).1))⟩

set_option maxRecDepth 100000 in
set_option maxHeartbeats 1000000 in
theorem lawhops_any (l : List Hop) (lv : Value) (w : World) (hl : Sl w w.heap.size 3 lv l.length (l.flatMap hopCells)) (hn : l.length ≤ 1000000) :
    Calls Try.prog 19 #[lv] w (HopsPost w l) := by
  obtain ⟨_, A, c, rfl, _, _, hat⟩ := hl
  go_enter Try.func19, Try.ntmps19
  go_wp2_with fail
  go_loopg [3, 4] l.length (fun m v i wr => ∃ k : Nat, k ≤ l.length ∧ m = l.length - k ∧ i = .int .i64 k ∧ wr.ownsRow w.heap.size 64 3 v k ((l.take k).flatMap hopCells) ∧ Below w.heap.size w wr)
  case atStart => exact ⟨0, Nat.zero_le _, rfl, rfl, World.ownsRow_nil _ _ _ _, Below.refl _ _⟩
  case round =>
    obtain ⟨k, hk, rfl, rfl, ho, hB⟩ := hrel
    obtain ⟨w1, rfl⟩ : ∃ x : World, x = wr := ⟨_, rfl⟩
    by_cases hkl : k < l.length
    · obtain ⟨b, off, rfl, hb, hc⟩ := hat (by omega)
      have hget : ∀ j u, (hopCells l[k])[j]? = some u → w1.cell? ⟨b, off + (k * 3 + j), none⟩ = some u := fun j u hu =>
        (hB.cell (p := ⟨b, off + (k * 3 + j), none⟩) hb).trans (hc _ _ (by rw [flat_get hopCells_len _ _ _ (List.getElem?_eq_some_iff.1 hu).1 hkl]; exact hu))
      have h0 := hget 0 _ rfl
      have h1 := hget 1 _ rfl
      have h2 := hget 2 _ rfl
      simp only [Nat.add_zero, ← Nat.add_assoc] at h0 h1 h2
      clear hget hc hat
      have htake : (l.take (k + 1)).flatMap hopCells = (l.take k).flatMap hopCells ++ hopCells l[k] := by rw [List.take_succ_eq_append_getElem hkl, List.flatMap_append]; simp
      have Htake := Lib.hid htake
      clear htake
      have hz := hB.size
      have hS0 : ∀ W, Below w.heap.size w W → W.cell? ⟨b, off + k * 3, none⟩ = some (.int .u32 l[k].1) := fun W h => (h.cell (p := ⟨b, off + k * 3, none⟩) hb).trans ((hB.cell (p := ⟨b, off + k * 3, none⟩) hb).symm.trans h0)
      have hS1 : ∀ W, Below w.heap.size w W → W.cell? ⟨b, off + k * 3 + 1, none⟩ = some (.int .u32 l[k].2.1) := fun W h => (h.cell (p := ⟨b, off + k * 3 + 1, none⟩) hb).trans ((hB.cell (p := ⟨b, off + k * 3 + 1, none⟩) hb).symm.trans h1)
      have hS2 : ∀ W, Below w.heap.size w W → W.cell? ⟨b, off + k * 3 + 2, none⟩ = some (.bool l[k].2.2) := fun W h => (h.cell (p := ⟨b, off + k * 3 + 2, none⟩) hb).trans ((hB.cell (p := ⟨b, off + k * 3 + 2, none⟩) hb).symm.trans h2)
      clear h0 h1 h2
      go_wp2_with fail
      go_region_held3 (fun W => Below w.heap.size w W) (first | exact hB.drew | exact Below.alloc (by assumption) (by simp; omega) _ | assumption)
        ((refine step_append rfl (.tmp 11) (.tmp 28) 57 rfl w.heap.size hopT u3 k _ rfl ((ho.drew).alloc _) _ _ 1 (hopCells l[k]) rfl (Sl.lit w1.drew #[.int .u32 l[k].1, .int .u32 l[k].2.1, .bool l[k].2.2] 64 (by simp [maxLen]) rfl) (by simp [hopCells, Value.oneCell']) (by simp only [maxLen]; omega) (by omega) (by simp; omega) ?_; intro v2 w2 hown2 hgr2 hob2; have hB2 : Below w.heap.size w w2 := Below.trans (by assumption) (below_of_grown hgr2 (by simp; omega) (fun g hg => (ho.lt g hg).1))))
      go_wp2
      go_roundg (l.length - (k + 1))
      case measure => omega
      case rel => exact ⟨k + 1, by omega, rfl, by go_num, by rw [Htake.out]; exact hown2, hB2⟩
    · obtain rfl : k = l.length := by omega
      go_wp2
      go_ret
      rw [List.take_length] at ho
      exact ⟨_, rfl, ho, hB⟩

set_option maxHeartbeats 400000 in
theorem neq_hop (a b : Hop) (w : World) : (binOp .neq 64 (.agg #[.int .u32 a.1, .int .u32 a.2.1, .bool a.2.2]) (.agg #[.int .u32 b.1, .int .u32 b.2.1, .bool b.2.2])).run Try.prog w = .ok (.bool (!(decide (a = b)))) w := by
  rw [run_neq_struct, run_equalIn_agg _ _ _ _ _ (by kernel_rfl) (by kernel_rfl)]
  go_simp
  obtain ⟨a1, a2, a3⟩ := a
  obtain ⟨b1, b2, b3⟩ := b
  by_cases h1 : a1 = b1 <;> by_cases h2 : a2 = b2 <;> by_cases h3 : a3 = b3 <;> simp [h1, h2, h3]

set_option maxRecDepth 100000 in
set_option maxHeartbeats 1000000 in
theorem eqhops_any (a l : List Hop) (av lv : Value) (w : World) (ha : Sl w w.heap.size 3 av a.length (a.flatMap hopCells)) (hl : Sl w w.heap.size 3 lv l.length (l.flatMap hopCells)) (hna : a.length ≤ 1000000) (hn : l.length ≤ 1000000) :
    Calls Try.prog 21 #[av, lv] w fun e w' => e = .returned (.bool (decide (a = l))) ∧ Below w.heap.size w w' := by
  obtain ⟨_, A, c, rfl, _, _, hat⟩ := ha
  go_enter Try.func21, Try.ntmps21
  go_wp2_with fail
  refine Calls.mono (lawhops_any l lv _ hl hn) ?_
  rintro e w1 ⟨v1, rfl, ho1, hB1⟩
  have hrow1 := fun k (hk : k < l.length) => own_row hopCells_len ho1 hk
  obtain ⟨A1, c1, rfl⟩ := hopVal ho1
  by_cases hlen : a.length = l.length
  · have hb1 : ((a.length : Int) != (l.length : Int)) = false := by rw [hlen]; simp
    have hb2 : (a.length != l.length) = false := by rw [hlen]; simp
    have Hlen := Lib.hid hlen
    clear hlen
    go_wp2_with fail
    go_loopg [6] a.length (fun m i wr => ∃ k : Nat, k ≤ a.length ∧ m = a.length - k ∧ i = .int .i64 k ∧ a.take k = l.take k ∧ Below w1.heap.size w1 wr)
    case atStart => exact ⟨0, Nat.zero_le _, rfl, rfl, by simp, Below.refl _ _⟩
    case round =>
      obtain ⟨k, hk, rfl, rfl, htk, hBk⟩ := hrel
      obtain ⟨w2, rfl⟩ : ∃ x : World, x = wr := ⟨_, rfl⟩
      have Htk := Lib.hid htk
      clear htk
      by_cases hka : k < a.length
      · have hkl : k < l.length := by rw [← Hlen.out]; exact hka
        obtain ⟨b, off, rfl, hb, hc⟩ := hat (by omega)
        obtain ⟨g, cap, hv, _, _, hg, _, hrow⟩ := hrow1 k hkl
        simp only [Value.slice.injEq] at hv
        obtain ⟨rfl, _, rfl⟩ := hv
        have hget : ∀ j u, (hopCells a[k])[j]? = some u → w2.cell? ⟨b, off + (k * 3 + j), none⟩ = some u := fun j u hu =>
          (hBk.cell (p := ⟨b, off + (k * 3 + j), none⟩) (Nat.lt_of_lt_of_le hb hB1.size)).trans ((hB1.cell (p := ⟨b, off + (k * 3 + j), none⟩) hb).trans (hc _ _ (by rw [flat_get hopCells_len _ _ _ (List.getElem?_eq_some_iff.1 hu).1 hka]; exact hu)))
        have h0 := hget 0 _ rfl
        have h1 := hget 1 _ rfl
        have h2 := hget 2 _ rfl
        simp only [Nat.add_zero, ← Nat.add_assoc] at h0 h1 h2
        have hgt : ∀ j u, (hopCells l[k])[j]? = some u → w2.cell? ⟨g, k * 3 + j, none⟩ = some u := fun j u hu => (hBk.cell (p := ⟨g, k * 3 + j, none⟩) hg).trans (hrow j u hu)
        have k0 := hgt 0 _ rfl
        have k1 := hgt 1 _ rfl
        have k2 := hgt 2 _ rfl
        simp only [Nat.add_zero] at k0
        clear hget hgt hc hat hrow hrow1
        by_cases hq : a[k] = l[k]
        · have heq := fun W => neq_hop a[k] l[k] W
          rw [decide_eq_true hq] at heq
          have Hq := Lib.hid hq
          clear hq
          go_wp2_with fail
          go_quiet (fail)
          go_wp2_with fail
          go_roundg (a.length - (k + 1))
          case measure => omega
          case rel => exact ⟨k + 1, by omega, rfl, by go_num, by rw [List.take_succ_eq_append_getElem hka, List.take_succ_eq_append_getElem hkl, Htk.out, Hq.out], below_drewN hBk _⟩
        · have heq := fun W => neq_hop a[k] l[k] W
          rw [decide_eq_false hq] at heq
          have Hq := Lib.hid hq
          clear hq
          go_wp2_with fail
          go_quiet (fail)
          go_wp2_with fail
          go_ret
          exact ⟨by rw [decide_eq_false (fun h => Hq.out (by subst h; rfl))]; rfl, hB1.trans (below_drewN (hBk.mono hB1.size) _)⟩
      · obtain rfl : k = a.length := by omega
        go_wp2_with fail
        go_ret
        have he : a = l := by
          have := Htk.out
          rw [List.take_length, Hlen.out, List.take_length] at this
          exact this
        exact ⟨by rw [decide_eq_true he]; rfl, hB1.trans (hBk.mono hB1.size)⟩
  · have hb1 : ((a.length : Int) != (l.length : Int)) = true := bne_iff_ne.2 (fun h => hlen (Int.ofNat.inj h))
    have hb2 : (a.length != l.length) = true := bne_iff_ne.2 hlen
    have Hlen := Lib.hid hlen
    clear hlen
    go_wp2_with fail
    go_ret
    exact ⟨by rw [decide_eq_false (fun h => Hlen.out (by rw [h]))]; rfl, hB1⟩

set_option maxHeartbeats 400000 in
theorem refbefore_any (a b : Hop) (w : World) :
    Calls Try.prog 47 #[.agg #[.int .u32 a.1, .int .u32 a.2.1, .bool a.2.2], .agg #[.int .u32 b.1, .int .u32 b.2.1, .bool b.2.2]] w
      fun e w' => e = .returned (.bool (hopLt a b)) ∧ Below w.heap.size w w' := by
  obtain ⟨a1, a2, a3⟩ := a
  obtain ⟨b1, b2, b3⟩ := b
  go_enter Try.func47, Try.ntmps47
  go_wp2
  all_goals go_ret
  all_goals refine ⟨?_, ((Below.refl _ _).alloc (Nat.le_refl _) _).alloc (by simp) _⟩
  all_goals simp [hopLt, *]

end Go.Proofs.Ytdilbcmnfpmijaa
