/- The document's Put and Join of hops, for this seat: what they hand back is the call's own. Conditions: the hops lie in memory. -/
import Derived.Test.YtiikagabdiphkaaGreatMie
namespace Go.Proofs.YtiikagabdiphkaaGreat
open Go.RowKit Go.Lo

set_option maxHeartbeats 400000 in
theorem eql_rhop (a b : Hop) (w : World) : (binOp .eql 46 (.agg #[.int .u32 a.1, .int .u32 a.2.1, .bool a.2.2]) (.agg #[.int .u32 b.1, .int .u32 b.2.1, .bool b.2.2])).run Tryz.prog w = .ok (.bool (decide (a = b))) w := by
  rw [run_eql_struct, run_equalIn_agg _ _ _ _ _ (by kernel_rfl) (by kernel_rfl)]
  go_simp
  obtain ⟨a1, a2, a3⟩ := a
  obtain ⟨b1, b2, b3⟩ := b
  by_cases h1 : a1 = b1 <;> by_cases h2 : a2 = b2 <;> by_cases h3 : a3 = b3 <;> simp [h1, h2, h3]

/-- what a function hands back that makes a list of hops, or hands one on -/
def RefPost (base : Nat) (w : World) (l : List Hop) (e : Ending) (w' : World) : Prop :=
  ∃ v, e = .returned v ∧ w'.ownsRow base 46 3 v l.length (l.flatMap hopCells) ∧ Below w.heap.size w w'

set_option maxRecDepth 100000 in
set_option maxHeartbeats 2000000 in
theorem refput_any (base : Nat) (l : List Hop) (h : Hop) (lv : Value) (w : World) (hbase : base ≤ w.heap.size) (hown : w.ownsRow base 46 3 lv l.length (l.flatMap hopCells)) (hn : l.length ≤ 1000000) :
    Calls Tryz.prog 152 #[lv, .agg #[.int .u32 h.1, .int .u32 h.2.1, .bool h.2.2]] w (RefPost base w (ins l h)) := by
  have hl := Sl.of_own hown
  have hl0 := hl
  replace hown := Lib.hid hown
  obtain ⟨_, A, c, rfl, hnc, _, hat⟩ := hl
  go_enter Tryz.func152, Tryz.ntmps152
  go_wp2_with fail
  have hx : Blk (w.alloc (Obj.cells #[.int .u32 h.1, .int .u32 h.2.1, .bool h.2.2] 46)) w.heap.size 46 #[.int .u32 h.1, .int .u32 h.2.1, .bool h.2.2] := Blk.new _ _ _
  have hB0 : Below w.heap.size w (w.alloc (Obj.cells #[.int .u32 h.1, .int .u32 h.2.1, .bool h.2.2] 46)) := (Below.refl _ _).alloc (Nat.le_refl _) _
  have hz0 := hx.lt
  generalize w.alloc (Obj.cells #[.int .u32 h.1, .int .u32 h.2.1, .bool h.2.2] 46) = w0 at *
  go_loopg [5] l.length (fun m a wi => ∃ j : Nat, j ≤ l.length ∧ m = l.length - j ∧ a = .int .i64 j ∧ (∀ i (hi : i < l.length), i < j → hopLt l[i] h = true) ∧ Below w0.heap.size w0 wi)
  case atStart => exact ⟨0, Nat.zero_le _, rfl, rfl, fun _ _ h => absurd h (by omega), Below.refl _ _⟩
  case round =>
    obtain ⟨j, hj, rfl, rfl, hall, hbi⟩ := hrel
    obtain ⟨wi, rfl⟩ : ∃ x : World, x = wr := ⟨_, rfl⟩
    have Hall := Lib.hid hall
    clear hall
    have hxi := hx.below hbi hz0
    have hBi : Below w.heap.size w wi := hB0.trans (hbi.mono (by omega))
    have hy0 : wi.cell? ⟨w.heap.size, 0, none⟩ = some (.int .u32 h.1) := hxi.cell 0
    have hy1 : wi.cell? ⟨w.heap.size, 1, none⟩ = some (.int .u32 h.2.1) := hxi.cell 1
    have hy2 : wi.cell? ⟨w.heap.size, 2, none⟩ = some (.bool h.2.2) := hxi.cell 2
    have hzi := hbi.size
    by_cases hjl : j < l.length
    · obtain ⟨b, off, rfl, hb, hc⟩ := hat (by omega)
      have hget : ∀ i u, (hopCells l[j])[i]? = some u → wi.cell? ⟨b, off + (j * 3 + i), none⟩ = some u := fun i u hu =>
        (hBi.cell (p := ⟨b, off + (j * 3 + i), none⟩) hb).trans (hc _ _ (by rw [flat_get hopCells_len _ _ _ (List.getElem?_eq_some_iff.1 hu).1 hjl]; exact hu))
      have hr0 := hget 0 _ rfl
      have hr1 := hget 1 _ rfl
      have hr2 := hget 2 _ rfl
      simp only [Nat.add_zero, ← Nat.add_assoc] at hr0 hr1 hr2
      clear hget hc hat
      have hbw : b < wi.heap.size := by omega
      cases hbool : hopLt l[j] h with
      | true =>
        have Hb := Lib.hid hbool
        clear hbool
        go_wp2_with fail
        go_still_tail 10, (by kernel_rfl)
        go_wp2_with (go_at_call 49; refine Calls.mono (refbefore_any l[j] h _) ?_; rintro e w2 ⟨rfl, hb2'⟩; have hb2 : Below wi.heap.size wi w2 := below_of_drew hb2'; clear hb2'; rw [Hb.out])
        go_roundg (l.length - (j + 1))
        case measure => omega
        case rel => exact ⟨j + 1, by omega, rfl, by go_num, fun i hi hij => by
                      by_cases e : i = j
                      · subst e; exact Hb.out
                      · exact Hall.out i hi (by omega), hbi.trans (hb2.mono hzi)⟩
      | false =>
        have Hb := Lib.hid hbool
        clear hbool
        go_wp2_with fail
        go_still_tail 10, (by kernel_rfl)
        go_wp2_with (go_at_call 49; refine Calls.mono (refbefore_any l[j] h _) ?_; rintro e w2 ⟨rfl, hb2'⟩; have hb2 : Below wi.heap.size wi w2 := below_of_drew hb2'; clear hb2'; rw [Hb.out])
        have hs0 := (hb2.cell (p := ⟨b, off + j * 3, none⟩) hbw).trans hr0
        have hs1 := (hb2.cell (p := ⟨b, off + j * 3 + 1, none⟩) hbw).trans hr1
        have hs2 := (hb2.cell (p := ⟨b, off + j * 3 + 2, none⟩) hbw).trans hr2
        have hv0 := (hb2.cell (p := ⟨w.heap.size, 0, none⟩) (show w.heap.size < _ by omega)).trans hy0
        have hv1 := (hb2.cell (p := ⟨w.heap.size, 1, none⟩) (show w.heap.size < _ by omega)).trans hy1
        have hv2 := (hb2.cell (p := ⟨w.heap.size, 2, none⟩) (show w.heap.size < _ by omega)).trans hy2
        have hB2 : Below w.heap.size w w2 := hBi.trans (hb2.mono (by omega))
        have hz2 : w.heap.size < w2.heap.size := by have := hb2.size; omega
        clear hr0 hr1 hr2 hy0 hy1 hy2 hb2
        by_cases hq : l[j] = h
        · have heq := fun W => eql_rhop l[j] h W
          rw [decide_eq_true hq] at heq
          have Hq := Lib.hid hq
          clear hq
          go_quiet (fail)
          go_wp2_with fail
          go_ret
          have hins : ins l h = l := ins_at (insAt_of hj Hall.out (fun _ => Hb.out)) hjl Hq.out
          unfold RefPost
          rw [hins]
          exact ⟨_, rfl, own_below hown.out (below_drewN hB2 _), below_drewN hB2 _⟩
        · have heq := fun W => eql_rhop l[j] h W
          rw [decide_eq_false hq] at heq
          have Hq := Lib.hid hq
          clear hq
          go_quiet (fail)
          have Hins := Lib.hid (insAt_of hj Hall.out (fun _ => Hb.out))
          have hne3 : ∀ hi : j < l.length, l[j] ≠ h := fun _ => Hq.out
          clear hs0 hs1 hs2 heq
          have hB3 : Below w.heap.size w (w2.drewN nq) := below_drewN hB2 nq
          have hv0 : (w2.drewN nq).cell? ⟨w.heap.size, 0, none⟩ = some (.int .u32 h.1) := hv0
          have hv1 : (w2.drewN nq).cell? ⟨w.heap.size, 1, none⟩ = some (.int .u32 h.2.1) := hv1
          have hv2 : (w2.drewN nq).cell? ⟨w.heap.size, 2, none⟩ = some (.bool h.2.2) := hv2
          have hz3 : w.heap.size < (w2.drewN nq).heap.size := hz2
          generalize (w2.drewN nq) = w3 at *

          obtain ⟨vt, hrt, hst⟩ := take_ex rhopT (some ⟨b, off, none⟩) l.length c j hj hnc
          obtain ⟨vd, hrd, hsd⟩ := drop_ex rhopT (some ⟨b, off, none⟩) l.length c j hj hnc
          have hl3 : Sl w3 w.heap.size 3 (.slice (some ⟨b, off, none⟩) l.length c) l.length (l.flatMap hopCells) := hl0.below hB3
          have ht3 := hst w3 w.heap.size _ hl3
          have Hst := Lib.hid hst
          have Hsd := Lib.hid hsd
          have hft := flat_take hopCells_len l j
          have hfd := flat_drop hopCells_len l j
          rw [hft] at ht3
          have Hft := Lib.hid hft
          have Hfd := Lib.hid hfd
          clear hst hsd hft hfd
          go_wp2_with (first
            | (at_builtin; refine wpList_append rfl (.tmp 34) (.tmp 37) 39 rfl w3.heap.size rhopT (.slice none 0 0) 0 [] rfl (World.ownsRow_nil _ _ _ _) w.heap.size vt j ((l.take j).flatMap hopCells) rfl ht3 hops_oneCell (by simp only [maxLen]; omega) (by omega) (Nat.le_refl _) ?_; intro va w4 ho4 hg4 hob4; have hB4 : Below w3.heap.size w3 w4 := below_of_grown hg4 (Nat.le_refl _) (by simp [Value.ownBlock]); have hx0 := (hB4.cell (p := ⟨w.heap.size, 0, none⟩) hz3).trans hv0; have hx1 := (hB4.cell (p := ⟨w.heap.size, 1, none⟩) hz3).trans hv1; have hx2 := (hB4.cell (p := ⟨w.heap.size, 2, none⟩) hz3).trans hv2; have hz4 := hB4.size; simp only [Nat.zero_add, List.nil_append] at ho4; clear hg4 hob4 hrt ht3 hv0 hv1 hv2)
            | (at_builtin; refine wpList_append rfl (.tmp 39) (.tmp 41) 39 rfl w3.heap.size rhopT va j _ rfl (ho4.alloc _) _ _ 1 (hopCells h) rfl (Sl.lit w4 #[.int .u32 h.1, .int .u32 h.2.1, .bool h.2.2] 46 (by simp [maxLen]) rfl) (by simp [hopCells, Value.oneCell']) (by simp only [maxLen]; omega) (by omega) (by simp; omega) ?_; intro vb w5 ho5 hg5 hob5; have hB5 : Below w3.heap.size w3 w5 := Below.trans (hB4.alloc hz4 _) (below_of_grown hg5 (by simp; omega) (fun g hg => (ho4.lt g hg).1)); have hz5 := hB5.size; have hl5 : Sl w5 w.heap.size 3 (.slice (some ⟨b, off, none⟩) l.length c) l.length (l.flatMap hopCells) := hl3.below (hB5.mono (by omega)); have hd5 := Hsd.out w5 w.heap.size _ hl5; rw [Hfd.out] at hd5; clear hg5 hob5 hx0 hx1 hx2)
            | (at_builtin; refine wpList_append rfl (.tmp 43) (.tmp 46) 39 rfl w3.heap.size rhopT vb (j + 1) _ rfl ho5 w.heap.size vd (l.length - j) ((l.drop j).flatMap hopCells) rfl hd5 hops_oneCell (by simp only [maxLen]; omega) (by omega) hz5 ?_; intro vc w6 ho6 hg6 hob6))
          go_ret
          have hB6 : Below w3.heap.size w3 w6 := hB5.trans (below_of_grown hg6 hz5 (fun g hg => (ho5.lt g hg).1))
          have hins := ins_new Hins.out hne3
          unfold RefPost
          rw [hins]
          have hfl : (l.take j ++ h :: l.drop j).length = j + 1 + (l.length - j) := by simp only [List.length_append, List.length_take, List.length_cons, List.length_drop]; omega
          refine ⟨vc, rfl, ?_, hB3.trans (hB6.mono (by omega))⟩
          rw [hfl, List.flatMap_append, List.flatMap_cons, ← List.append_assoc]
          exact own_less ho6 (by omega)
    · have hjn : j = l.length := by omega
      have Hjn := Lib.hid hjn
      have hn1 : decide (j < l.length) = false := decide_eq_false (by omega)
      clear hjn
      go_wp2_with fail
      go_quiet (fail)
      obtain ⟨n1, rfl⟩ : ∃ x, x = nq := ⟨_, rfl⟩
      go_wp2_with fail
      go_quiet (fail)
      have Hins := Lib.hid (insAt_of hj Hall.out (fun hi => absurd hi (by rw [Hjn.out]; exact Nat.lt_irrefl _)))
      have hne3 : ∀ hi : j < l.length, l[j] ≠ h := fun hi => absurd hi (by rw [Hjn.out]; exact Nat.lt_irrefl _)
      clear hn1
      have hB3 : Below w.heap.size w ((wi.drewN n1).drewN nq) := below_drewN (below_drewN hBi n1) nq
      have hv0 : ((wi.drewN n1).drewN nq).cell? ⟨w.heap.size, 0, none⟩ = some (.int .u32 h.1) := hy0
      have hv1 : ((wi.drewN n1).drewN nq).cell? ⟨w.heap.size, 1, none⟩ = some (.int .u32 h.2.1) := hy1
      have hv2 : ((wi.drewN n1).drewN nq).cell? ⟨w.heap.size, 2, none⟩ = some (.bool h.2.2) := hy2
      have hz3 : w.heap.size < ((wi.drewN n1).drewN nq).heap.size := (show w.heap.size < wi.heap.size by omega)
      generalize ((wi.drewN n1).drewN nq) = w3 at *

      obtain ⟨vt, hrt, hst⟩ := take_ex rhopT A l.length c j hj hnc
      obtain ⟨vd, hrd, hsd⟩ := drop_ex rhopT A l.length c j hj hnc
      have hl3 : Sl w3 w.heap.size 3 (.slice A l.length c) l.length (l.flatMap hopCells) := hl0.below hB3
      have ht3 := hst w3 w.heap.size _ hl3
      have Hst := Lib.hid hst
      have Hsd := Lib.hid hsd
      have hft := flat_take hopCells_len l j
      have hfd := flat_drop hopCells_len l j
      rw [hft] at ht3
      have Hft := Lib.hid hft
      have Hfd := Lib.hid hfd
      clear hst hsd hft hfd
      go_wp2_with (first
        | (at_builtin; refine wpList_append rfl (.tmp 34) (.tmp 37) 39 rfl w3.heap.size rhopT (.slice none 0 0) 0 [] rfl (World.ownsRow_nil _ _ _ _) w.heap.size vt j ((l.take j).flatMap hopCells) rfl ht3 hops_oneCell (by simp only [maxLen]; omega) (by omega) (Nat.le_refl _) ?_; intro va w4 ho4 hg4 hob4; have hB4 : Below w3.heap.size w3 w4 := below_of_grown hg4 (Nat.le_refl _) (by simp [Value.ownBlock]); have hx0 := (hB4.cell (p := ⟨w.heap.size, 0, none⟩) hz3).trans hv0; have hx1 := (hB4.cell (p := ⟨w.heap.size, 1, none⟩) hz3).trans hv1; have hx2 := (hB4.cell (p := ⟨w.heap.size, 2, none⟩) hz3).trans hv2; have hz4 := hB4.size; simp only [Nat.zero_add, List.nil_append] at ho4; clear hg4 hob4 hrt ht3 hv0 hv1 hv2)
        | (at_builtin; refine wpList_append rfl (.tmp 39) (.tmp 41) 39 rfl w3.heap.size rhopT va j _ rfl (ho4.alloc _) _ _ 1 (hopCells h) rfl (Sl.lit w4 #[.int .u32 h.1, .int .u32 h.2.1, .bool h.2.2] 46 (by simp [maxLen]) rfl) (by simp [hopCells, Value.oneCell']) (by simp only [maxLen]; omega) (by omega) (by simp; omega) ?_; intro vb w5 ho5 hg5 hob5; have hB5 : Below w3.heap.size w3 w5 := Below.trans (hB4.alloc hz4 _) (below_of_grown hg5 (by simp; omega) (fun g hg => (ho4.lt g hg).1)); have hz5 := hB5.size; have hl5 : Sl w5 w.heap.size 3 (.slice A l.length c) l.length (l.flatMap hopCells) := hl3.below (hB5.mono (by omega)); have hd5 := Hsd.out w5 w.heap.size _ hl5; rw [Hfd.out] at hd5; clear hg5 hob5 hx0 hx1 hx2)
        | (at_builtin; refine wpList_append rfl (.tmp 43) (.tmp 46) 39 rfl w3.heap.size rhopT vb (j + 1) _ rfl ho5 w.heap.size vd (l.length - j) ((l.drop j).flatMap hopCells) rfl hd5 hops_oneCell (by simp only [maxLen]; omega) (by omega) hz5 ?_; intro vc w6 ho6 hg6 hob6))
      go_ret
      have hB6 : Below w3.heap.size w3 w6 := hB5.trans (below_of_grown hg6 hz5 (fun g hg => (ho5.lt g hg).1))
      have hins := ins_new Hins.out hne3
      unfold RefPost
      rw [hins]
      have hfl : (l.take j ++ h :: l.drop j).length = j + 1 + (l.length - j) := by simp only [List.length_append, List.length_take, List.length_cons, List.length_drop]; omega
      refine ⟨vc, rfl, ?_, hB3.trans (hB6.mono (by omega))⟩
      rw [hfl, List.flatMap_append, List.flatMap_cons, ← List.append_assoc]
      exact own_less ho6 (by omega)

set_option maxRecDepth 100000 in
set_option maxHeartbeats 2000000 in
theorem refjoin_any (a b : List Hop) (av bv : Value) (w : World) (ha : Sl w w.heap.size 3 av a.length (a.flatMap hopCells)) (hb : Sl w w.heap.size 3 bv b.length (b.flatMap hopCells)) (hn : a.length + b.length ≤ 500000) :
    Calls Tryz.prog 125 #[av, bv] w (RefPost w.heap.size w (puts (puts [] a) b)) := by
  obtain ⟨_, A, c, rfl, _, _, hat⟩ := ha
  obtain ⟨_, A', c', rfl, _, _, hat'⟩ := hb
  have hl1 := puts_length [] a
  go_enter Tryz.func125, Tryz.ntmps125
  go_wp2_with fail
  go_loopg [5, 6] a.length (fun m v i wr => ∃ k : Nat, k ≤ a.length ∧ m = a.length - k ∧ i = .int .i64 k ∧ wr.ownsRow w.heap.size 46 3 v (puts [] (a.take k)).length ((puts [] (a.take k)).flatMap hopCells) ∧ Below w.heap.size w wr)
  case atStart => exact ⟨0, Nat.zero_le _, rfl, rfl, World.ownsRow_nil _ _ _ _, Below.refl _ _⟩
  case round =>
    obtain ⟨k, hk, rfl, rfl, ho, hB⟩ := hrel
    obtain ⟨w1, rfl⟩ : ∃ x : World, x = wr := ⟨_, rfl⟩
    by_cases hka : k < a.length
    · obtain ⟨b1, off, rfl, hb1, hc⟩ := hat (by omega)
      have hget : ∀ i u, (hopCells a[k])[i]? = some u → w1.cell? ⟨b1, off + (k * 3 + i), none⟩ = some u := fun i u hu =>
        (hB.cell (p := ⟨b1, off + (k * 3 + i), none⟩) hb1).trans (hc _ _ (by rw [flat_get hopCells_len _ _ _ (List.getElem?_eq_some_iff.1 hu).1 hka]; exact hu))
      have hr0 := hget 0 _ rfl
      have hr1 := hget 1 _ rfl
      have hr2 := hget 2 _ rfl
      simp only [Nat.add_zero, ← Nat.add_assoc] at hr0 hr1 hr2
      clear hget hc hat
      have hlk := puts_length [] (a.take k)
      rw [List.length_take] at hlk
      have hlk' : (puts [] (a.take k)).length ≤ 1000000 := by simp at hlk; omega
      have hpt := puts_take [] a k hka
      have Hpt := Lib.hid hpt
      clear hpt hlk
      go_wp2_with fail
      refine Calls.mono (refput_any w.heap.size _ a[k] _ _ hB.size ho hlk') ?_
      rintro e w2 ⟨v2, rfl, ho2, hB2⟩
      go_wp2_with fail
      go_roundg (a.length - (k + 1))
      case measure => omega
      case rel => exact ⟨k + 1, by omega, rfl, by go_num, by rw [Hpt.out]; exact ho2, hB.trans (hB2.mono hB.size)⟩
    · obtain rfl : k = a.length := by omega
      rw [List.take_length] at ho
      go_wp2_with fail
      go_loopg [5, 7] b.length (fun m v i wr => ∃ k : Nat, k ≤ b.length ∧ m = b.length - k ∧ i = .int .i64 k ∧ wr.ownsRow w.heap.size 46 3 v (puts (puts [] a) (b.take k)).length ((puts (puts [] a) (b.take k)).flatMap hopCells) ∧ Below w.heap.size w wr)
      case atStart => exact ⟨0, Nat.zero_le _, rfl, rfl, by simpa [puts] using ho, hB⟩
      case round =>
        obtain ⟨k, hk, rfl, rfl, ho, hB⟩ := hrel
        obtain ⟨w1, rfl⟩ : ∃ x : World, x = wr := ⟨_, rfl⟩
        by_cases hka : k < b.length
        · obtain ⟨b1, off, rfl, hb1, hc⟩ := hat' (by omega)
          have hget : ∀ i u, (hopCells b[k])[i]? = some u → w1.cell? ⟨b1, off + (k * 3 + i), none⟩ = some u := fun i u hu =>
            (hB.cell (p := ⟨b1, off + (k * 3 + i), none⟩) hb1).trans (hc _ _ (by rw [flat_get hopCells_len _ _ _ (List.getElem?_eq_some_iff.1 hu).1 hka]; exact hu))
          have hr0 := hget 0 _ rfl
          have hr1 := hget 1 _ rfl
          have hr2 := hget 2 _ rfl
          simp only [Nat.add_zero, ← Nat.add_assoc] at hr0 hr1 hr2
          clear hget hc hat'
          have hlk := puts_length (puts [] a) (b.take k)
          rw [List.length_take] at hlk
          have hlk' : (puts (puts [] a) (b.take k)).length ≤ 1000000 := by simp at hlk hl1; omega
          have hpt := puts_take (puts [] a) b k hka
          have Hpt := Lib.hid hpt
          clear hpt hlk
          go_wp2_with fail
          refine Calls.mono (refput_any w.heap.size _ b[k] _ _ hB.size ho hlk') ?_
          rintro e w2 ⟨v2, rfl, ho2, hB2⟩
          go_wp2_with fail
          go_roundg (b.length - (k + 1))
          case measure => omega
          case rel => exact ⟨k + 1, by omega, rfl, by go_num, by rw [Hpt.out]; exact ho2, hB.trans (hB2.mono hB.size)⟩
        · obtain rfl : k = b.length := by omega
          rw [List.take_length] at ho
          go_wp2_with fail
          go_ret
          exact ⟨_, rfl, ho, hB⟩

end Go.Proofs.YtiikagabdiphkaaGreat
