/- origin's Network of a port in the designated state that has full neighbours. Conditions: the port's full neighbours lie in memory. -/
import Derived.Test.YtdilbcmnfpmijaaOriM
import Derived.Test.YtdilbcmnfpmijaaSrtM
namespace Go.Proofs.Ytdilbcmnfpmijaa
open Go.RowKit Go.Lo

theorem upon12 {P : Program} {o : Oper} {a : Act} {K : Act → World → Prop} {Q : Exit → Act → World → Prop} {w : World} {g : Nat} {t : TypeId} {x0 x1 x2 x3 x4 x5 x6 x7 x8 x9 x10 x11 : Value}
    (h : Blk w g t #[x0, x1, x2, x3, x4, x5, x6, x7, x8, x9, x10, x11]) (v0 v1 v2 v3 v4 v5 v6 v7 v8 v9 v10 v11 : Value)
    (hK : ∀ W, Blk W g t #[v0, v1, v2, v3, v4, v5, v6, v7, v8, v9, v10, v11] → Put w g t W → Oper.upon P o a K Q (Result.ok Next.skip W)) :
    Oper.upon P o a K Q (((cellPut P w ⟨g, 0, none⟩ v0).andThen fun _ w1 => (cellPut P w1 ⟨g, 1, none⟩ v1).andThen fun _ w2 => (cellPut P w2 ⟨g, 2, none⟩ v2).andThen fun _ w3 => (cellPut P w3 ⟨g, 3, none⟩ v3).andThen fun _ w4 => (cellPut P w4 ⟨g, 4, none⟩ v4).andThen fun _ w5 => (cellPut P w5 ⟨g, 5, none⟩ v5).andThen fun _ w6 => (cellPut P w6 ⟨g, 6, none⟩ v6).andThen fun _ w7 => (cellPut P w7 ⟨g, 7, none⟩ v7).andThen fun _ w8 => (cellPut P w8 ⟨g, 8, none⟩ v8).andThen fun _ w9 => (cellPut P w9 ⟨g, 9, none⟩ v9).andThen fun _ w10 => (cellPut P w10 ⟨g, 10, none⟩ v10).andThen fun _ w11 => cellPut P w11 ⟨g, 11, none⟩ v11).andThen fun _ w' => Result.ok Next.skip w') := by
  have k0 := h
  have k1 := k0.set_ 0 v0
  have k2 := k1.set_ 1 v1
  have k3 := k2.set_ 2 v2
  have k4 := k3.set_ 3 v3
  have k5 := k4.set_ 4 v4
  have k6 := k5.set_ 5 v5
  have k7 := k6.set_ 6 v6
  have k8 := k7.set_ 7 v7
  have k9 := k8.set_ 8 v8
  have k10 := k9.set_ 9 v9
  have k11 := k10.set_ 10 v10
  have k12 := k11.set_ 11 v11
  have p12 := ((((((((((((Put.refl_ h).cell_ 0 v0).cell_ 1 v1).cell_ 2 v2).cell_ 3 v3).cell_ 4 v4).cell_ 5 v5).cell_ 6 v6).cell_ 7 v7).cell_ 8 v8).cell_ 9 v9).cell_ 10 v10).cell_ 11 v11
  rw [cellPut_ok k0 0 (by simp)]
  simp only [Result.andThen_ok]
  rw [cellPut_ok k1 1 (by simp)]
  simp only [Result.andThen_ok]
  rw [cellPut_ok k2 2 (by simp)]
  simp only [Result.andThen_ok]
  rw [cellPut_ok k3 3 (by simp)]
  simp only [Result.andThen_ok]
  rw [cellPut_ok k4 4 (by simp)]
  simp only [Result.andThen_ok]
  rw [cellPut_ok k5 5 (by simp)]
  simp only [Result.andThen_ok]
  rw [cellPut_ok k6 6 (by simp)]
  simp only [Result.andThen_ok]
  rw [cellPut_ok k7 7 (by simp)]
  simp only [Result.andThen_ok]
  rw [cellPut_ok k8 8 (by simp)]
  simp only [Result.andThen_ok]
  rw [cellPut_ok k9 9 (by simp)]
  simp only [Result.andThen_ok]
  rw [cellPut_ok k10 10 (by simp)]
  simp only [Result.andThen_ok]
  rw [cellPut_ok k11 11 (by simp)]
  simp only [Result.andThen_ok]
  simp only [List.setIfInBounds_toArray, List.set_cons_zero, List.set_cons_succ] at k12
  exact hK _ k12 p12

/-- what is kept of a sorted row: strictly rising, and the same members -/
theorem compact_sorted (d : Array Int) (n : Nat) (hs : ∀ i j, i < j → j < n → d[i]! ≤ d[j]!) : ∀ m, m ≤ n →
    (Lib.compactUpTo d m).Pairwise (· < ·) ∧ (∀ x ∈ Lib.compactUpTo d m, ∃ j, j < m ∧ x = d[j]!) ∧ (∀ j, j < m → d[j]! ∈ Lib.compactUpTo d m)
  | 0, _ => by simp [Lib.compactUpTo]
  | m + 1, hm => by
    obtain ⟨h1, h2, h3⟩ := compact_sorted d n hs m (by omega)
    rw [Lib.compactUpTo_succ]
    by_cases hk : Lib.keeps d m = true
    · rw [if_pos hk]
      refine ⟨?_, ?_, ?_⟩
      · rw [List.pairwise_append]
        refine ⟨h1, by simp, fun x hx y hy => ?_⟩
        rw [List.mem_singleton] at hy
        subst hy
        obtain ⟨j, hj, rfl⟩ := h2 x hx
        have hne : d[m]! ≠ d[m - 1]! := by
          have := hk
          simp only [Lib.keeps, decide_eq_true_eq] at this
          rcases this with h | h
          · omega
          · exact h
        have a1 : d[j]! ≤ d[m - 1]! := by
          rcases Nat.lt_or_ge j (m - 1) with h | h
          · exact hs j (m - 1) h (by omega)
          · obtain rfl : j = m - 1 := by omega
            exact Int.le_refl _
        have a2 : d[m - 1]! ≤ d[m]! := hs (m - 1) m (by omega) (by omega)
        omega
      · intro x hx
        rw [List.mem_append, List.mem_singleton] at hx
        rcases hx with hx | rfl
        · obtain ⟨j, hj, rfl⟩ := h2 x hx
          exact ⟨j, by omega, rfl⟩
        · exact ⟨m, by omega, rfl⟩
      · intro j hj
        rw [List.mem_append, List.mem_singleton]
        rcases Nat.lt_or_ge j m with h | h
        · exact .inl (h3 j h)
        · obtain rfl : j = m := by omega
          exact .inr rfl
    · rw [if_neg hk, List.append_nil]
      refine ⟨h1, fun x hx => ?_, fun j hj => ?_⟩
      · obtain ⟨j, hj, rfl⟩ := h2 x hx
        exact ⟨j, by omega, rfl⟩
      · rcases Nat.lt_or_ge j m with h | h
        · exact h3 j h
        · obtain rfl : j = m := by omega
          have : ¬ (j = 0 ∨ d[j]! ≠ d[j - 1]!) := by simpa [Lib.keeps] using hk
          have e : d[j]! = d[j - 1]! := by
            rcases Classical.em (d[j]! = d[j - 1]!) with h | h
            · exact h
            · exact absurd (.inr h) this
          rw [e]
          exact h3 (j - 1) (by omega)

theorem RowU.below_ {w0 w : World} {g B : Nat} {rest : List Value} {d : Array Int} (h : RowU w0 g rest d w) (hg : B ≤ g) (hB : B ≤ w0.heap.size) : Below B w0 w :=
  ⟨h.os, h.tape, h.output, h.size, fun k hk => h.other k (by omega) (by omega)⟩

theorem u32s_map (l : List Int) : l.flatMap u32Cells = l.map u32c := by
  induction l with
  | nil => rfl
  | cons a l ih => rw [List.flatMap_cons, ih]; rfl

/-- a row of the call's own, as the sort's walk speaks of it -/
theorem row_of_own {w : World} {base n : Nat} {v : Value} {l : List Int} (h : w.ownsRow base 22 1 v n (l.flatMap u32Cells)) (hn : 0 < n) :
    ∃ g cap rest, v = .slice (some ⟨g, 0, none⟩) n cap ∧ base ≤ g ∧ n ≤ cap ∧ cap ≤ maxLen ∧ l.length = n ∧ RowU w g rest l.toArray w := by
  obtain ⟨hl, h⟩ := h
  rcases h with ⟨_, h0⟩ | ⟨g, cap, cur, rfl, hb, hg, hnc, hcm, hcs, htake⟩
  · omega
  · rw [u32s_map] at hl htake
    rw [List.length_map, Nat.mul_one] at hl
    refine ⟨g, cap, cur.toList.drop n, rfl, hb, hnc, hcm, hl, ⟨?_, rfl, rfl, rfl, Nat.le_refl _, fun _ _ _ => rfl⟩⟩
    rw [Nat.mul_one] at htake
    show Blk w g _ _
    rw [show (l.toArray.toList.map u32c ++ cur.toList.drop n).toArray = cur by rw [List.toList_toArray, ← htake, List.take_append_drop]]
    exact hg


/-- what is told of: strictly rising, and the same members -/
theorem rising_of_sorted (l : List Int) (n : Nat) (d2 : Array Int) (hl : l.toArray.size = n) (hp : Sort.PermIn 0 n l.toArray d2) (hs : Sort.SortedIn Sort.ltInt 0 n d2) :
    (Lib.compactUpTo d2 d2.size).Pairwise (· < ·) ∧ (∀ x, x ∈ Lib.compactUpTo d2 d2.size ↔ x ∈ l) ∧ (Lib.compactUpTo d2 d2.size).length ≤ n := by
  have hz : d2.size = n := hp.1.trans hl
  obtain ⟨h1, h2, h3⟩ := compact_sorted d2 n (fun i j hij hj => by
    have := hs i j (Nat.zero_le _) hij hj
    simp only [Sort.ltInt, decide_eq_false_iff_not] at this
    omega) d2.size (by omega)
  have hm : ∀ x, x ∈ d2.toList ↔ x ∈ l := by
    have h := hp.2.2
    rw [show d2.extract 0 n = d2 by rw [← hz]; exact Array.extract_size, show l.toArray.extract 0 n = l.toArray by rw [← hl]; exact Array.extract_size] at h
    intro x
    exact h.mem_iff
  refine ⟨h1, fun x => ?_, ?_⟩
  · rw [← hm]
    constructor
    · intro hx
      obtain ⟨j, hj, rfl⟩ := h2 x hx
      rw [getElem!_pos d2 j hj]
      simp
    · intro hx
      obtain ⟨j, hj, rfl⟩ := List.mem_iff_getElem.1 hx
      have hj' : j < d2.size := by simpa using hj
      have := h3 j hj'
      rw [getElem!_pos d2 j hj'] at this
      simpa using this
  · unfold Lib.compactUpTo
    rw [List.length_map]
    exact Nat.le_trans (List.length_filter_le _ _) (by simp [hz])

theorem Sl.of_row {w' : World} {g cap : Nat} {rest : List Value} {d : Array Int} (hk : Blk w' g 22 ((cmpRow d).toList.map u32c ++ rest).toArray) (hc : (Lib.compactUpTo d d.size).length ≤ cap) (hm : cap ≤ maxLen) :
    Sl w' w'.heap.size 1 (.slice (some ⟨g, 0, none⟩) (Lib.compactUpTo d d.size).length cap) (Lib.compactUpTo d d.size).length ((Lib.compactUpTo d d.size).flatMap u32Cells) := by
  refine ⟨by rw [u32s_map]; simp, _, _, rfl, hc, hm, fun hn => ⟨g, 0, rfl, hk.lt, fun j u hu => ?_⟩⟩
  rw [Nat.zero_add, hk.cell j]
  rw [u32s_map] at hu
  have hj : j < (Lib.compactUpTo d d.size).length := by
    have := (List.getElem?_eq_some_iff.1 hu).1
    simpa using this
  unfold cmpRow
  rw [List.getElem?_toArray, List.toList_toArray, List.map_append, List.append_assoc, List.getElem?_append_left (by simpa using hj)]
  exact hu

/-- what Network tells of such a port -/
def toldF (addr o mask : Int) (v : Value) : Array Value := #[.int .u8 2, .int .u32 addr, .int .u8 o, .int .u8 0, .slice none 0 0, .int .u32 mask, v, .int .u32 0, .bool false, .int .u32 0, .int .u32 0, .slice none 0 0]
def NetPost (w : World) (p : OPort) (r o : Int) (e : Ending) (w' : World) : Prop :=
  ∃ (v : Value) (L : List Int), e = .returned (.tuple #[.agg (toldF p.addr o (maskI p.netB) v), .bool true]) ∧ Sl w' w'.heap.size 1 v L.length (L.flatMap u32Cells) ∧
    L.Pairwise (· < ·) ∧ (∀ x, x ∈ L ↔ x ∈ r :: p.full) ∧ L.length ≤ p.full.length + 1 ∧ Below w.heap.size w w'

set_option maxRecDepth 100000 in
set_option maxHeartbeats 2000000 in
theorem network_full (p : OPort) (r o : Int) (w : World) (hp : PortAt w p) (hst : p.state = 6) (hkd : ¬ 1 < p.kind) (hf : 0 < p.full.length) : Calls Try.prog 25 #[portVal p, .int .u32 r, .int .u8 o] w (NetPost w p r o) := by
  have hp' := hp
  obtain ⟨kind, state, addr, netA, netB, pcost, dr, withDR, fv, full, remote⟩ := p
  obtain ⟨⟨_, A, c, hv, _⟩, hn, hb0, hb1⟩ := hp
  simp only at hv hst hkd hf hn hb0 hb1
  subst hv hst
  have ik : (kind : Int) ≤ 1 := by omega
  have il : ((full.length : Int) == 0) = false := by rw [beq_eq_false_iff_ne]; omega
  have il' : ¬ (full.length : Int) = 0 := by omega
  have hP0 : Blk ((w.alloc (.cells #[.int .u8 kind, .int .u8 6, .int .u32 addr, .int .u32 netA, .int .u8 netB, .int .u16 pcost, .int .u32 dr, .bool withDR, .slice A full.length c, .int .u32 remote] 73)).alloc (.cells toldZ 34)) w.heap.size 73 #[.int .u8 kind, .int .u8 6, .int .u32 addr, .int .u32 netA, .int .u8 netB, .int .u16 pcost, .int .u32 dr, .bool withDR, .slice A full.length c, .int .u32 remote] := (Blk.new _ _ _).alloc _
  have hT0 : Blk ((w.alloc (.cells #[.int .u8 kind, .int .u8 6, .int .u32 addr, .int .u32 netA, .int .u8 netB, .int .u16 pcost, .int .u32 dr, .bool withDR, .slice A full.length c, .int .u32 remote] 73)).alloc (.cells toldZ 34)) (w.heap.size + 1) 34 toldZ := heap_alloc2_new w _ _
  have hB0 : Below w.heap.size w ((w.alloc (.cells #[.int .u8 kind, .int .u8 6, .int .u32 addr, .int .u32 netA, .int .u8 netB, .int .u16 pcost, .int .u32 dr, .bool withDR, .slice A full.length c, .int .u32 remote] 73)).alloc (.cells toldZ 34)) := ((Below.refl _ _).alloc (Nat.le_refl _) _).alloc (by simp) _
  have hZ0 : (((w.alloc (.cells #[.int .u8 kind, .int .u8 6, .int .u32 addr, .int .u32 netA, .int .u8 netB, .int .u16 pcost, .int .u32 dr, .bool withDR, .slice A full.length c, .int .u32 remote] 73)).alloc (.cells toldZ 34)) : World).heap.size = w.heap.size + 2 := by simp
  go_enter Try.func25, Try.ntmps25
  go_upto_region 1 with fail
  generalize ((w.alloc (.cells #[.int .u8 kind, .int .u8 6, .int .u32 addr, .int .u32 netA, .int .u8 netB, .int .u16 pcost, .int .u32 dr, .bool withDR, .slice A full.length c, .int .u32 remote] 73)).alloc (.cells toldZ 34)) = W0 at hP0 hT0 hB0 hZ0 ⊢
  have z0 := hP0.cell 0
  have z1 := hP0.cell 1
  have z2 := hP0.cell 2
  have z3 := hP0.cell 3
  have z4 := hP0.cell 4
  have z5 := hP0.cell 5
  have z6 := hP0.cell 6
  have z7 := hP0.cell 7
  have z8 := hP0.cell 8
  have z9 := hP0.cell 9
  simp only [List.getElem?_toArray, List.getElem?_cons_zero, List.getElem?_cons_succ] at z0 z1 z2 z3 z4 z5 z6 z7 z8 z9
  have hl0 : Sl (W0.alloc (.cells #[.int .u32 r] 22)) w.heap.size 1 (.slice A full.length c) full.length (full.flatMap u32Cells) := (hp'.1.below hB0).alloc hB0.size _
  have hw0 : (W0.alloc (.cells #[.int .u32 r] 22)).ownsRow (w.heap.size + 2) 22 1 (.slice (some ⟨w.heap.size + 2, 0, none⟩) 1 1) 1 [.int .u32 r] := hZ0 ▸ World.ownsRow_lit (base := W0.heap.size) (e := 22) (size := 1) W0 #[.int .u32 r] 1 (by omega) (by simp [maxLen]) rfl
  have hz1 : (W0.alloc (.cells #[.int .u32 r] 22)).heap.size = w.heap.size + 3 := by simp; omega
  go_upto_region 4 with (at_builtin; refine wpList_append rfl (.tmp 25) (.tmp 27) 29 rfl (w.heap.size + 2) u32T (.slice (some ⟨w.heap.size + 2, 0, none⟩) 1 1) 1 [.int .u32 r] rfl hw0 _ _ _ _ rfl hl0 u32s_oneCell (by simp only [maxLen]; omega) (by omega) (by omega) ?_; intro v1 w1 ho1 hg1 hob1)
  have hB1 : Below (w.heap.size + 2) W0 w1 := ((Below.refl _ _).alloc (by omega) _).trans (below_of_grown hg1 (by omega) (fun g hg => by simp [Value.ownBlock] at hg; omega))
  obtain ⟨g, cap, rest, rfl, hg, hcap, hcm, hlen, hrow⟩ := row_of_own (l := r :: full) (by simpa [u32Cells] using ho1) (by omega)
  clear ho1 hg1 hob1 hw0 hz1 hl0 z0 z1 z2 z3 z4 z5 z6 z7 z8 z9
  have hd : ((r :: full).toArray).size = 1 + full.length := by simp; omega
  have C1 := sort32_any g (1 + full.length) cap rest (by omega) (r :: full).toArray w1 hrow hd
  replace hrow := Lib.hid hrow
  replace hd := Lib.hid hd
  replace hp' := Lib.hid hp'
  replace hZ0 := Lib.hid hZ0
  replace hB0 := Lib.hid hB0
  replace hB1 := Lib.hid hB1
  replace C1 := Lib.hid C1
  go_upto_region 5 with (go_at_call 35; refine Calls.mono C1.out ?_; rintro e w2 ⟨rfl, d2, hR2, hperm, hsort⟩)
  clear C1
  have hB2 : Below (w.heap.size + 2) W0 w2 := hB1.out.trans (hR2.below_ hg (by have := hB1.out.size; have := hZ0.out; omega))
  have hk0 : Blk w2 w.heap.size 73 _ := hP0.below hB2 (by omega)
  have hk1 : Blk w2 (w.heap.size + 1) 34 _ := hT0.below hB2 (by omega)
  have hgw : g < w2.heap.size := hR2.blk.lt
  have hw1 := hrow.out.blk.lt
  clear hP0 hT0
  have HC : Hid (∀ W, RowU w2 g rest d2 W → Calls Try.prog 37 #[.slice (some ⟨g, 0, none⟩) (1 + full.length) cap] W (CmpPost W g cap rest d2)) := fun W h =>
    compact32_any g (1 + full.length) cap rest (by omega) hcap d2 W h.self (hperm.1.trans hd.out)
  have hRr : RowU w2 g rest d2 w2.drew := hR2.self.drew
  replace hperm := Lib.hid hperm
  replace hsort := Lib.hid hsort
  have b2 : ∀ W, Below (w.heap.size + 1) w2 W → W.cell? ⟨w.heap.size, 2, none⟩ = some (.int .u32 addr) := fun W h => (h.cell (p := ⟨w.heap.size, 2, none⟩) (by show w.heap.size < w.heap.size + 1; omega)).trans (hk0.cell 2)
  have b4 : ∀ W, Below (w.heap.size + 1) w2 W → W.cell? ⟨w.heap.size, 4, none⟩ = some (.int .u8 netB) := fun W h => (h.cell (p := ⟨w.heap.size, 4, none⟩) (by show w.heap.size < w.heap.size + 1; omega)).trans (hk0.cell 4)
  go_region_held3 (fun W => Below (w.heap.size + 1) w2 W) (first | assumption | exact (Below.refl _ _).drew | fail)
    (first
      | (go_at_call 36; refine Calls.mono (mask_any _ ⟨hb0, hb1⟩ _) ?_; rintro e w3 ⟨rfl, rfl⟩)
      | (go_at_call 37; refine Calls.mono (HC.out _ hRr) ?_; rintro e w4 ⟨rfl, hR4⟩; have hS4 : Below (w.heap.size + 2) w2 w4 := (Below.refl (w.heap.size + 2) w2).drew.trans (hR4.below_ hg (by show w.heap.size + 2 ≤ w2.heap.size; omega)); have hk4 := Blk.below (w := w2) hk1 hS4 (Nat.lt_succ_self _); replace hS4 : Below (w.heap.size + 1) w2 w4 := hS4.mono (by omega); dsimp only)
      | (refine upon12 (t := 34) (x0 := .int .u8 0) (x1 := .int .u32 0) (x2 := .int .u8 0) (x3 := .int .u8 0) (x4 := .slice none 0 0) (x5 := .int .u32 0) (x6 := .slice none 0 0) (x7 := .int .u32 0) (x8 := .bool false) (x9 := .int .u32 0) (x10 := .int .u32 0) (x11 := .slice none 0 0) hk4 _ _ _ _ _ _ _ _ _ _ _ _ ?_; intro W5 kW5 pW5; have SW5 := pW5.below hS4 (by omega); go_simp)
      | fail)
  go_wp2
  refine bodyPost_ret (results_cell_tmp_row rfl _ _ (w.heap.size + 1) 34 _ (0, 0) _ rfl kW5 Try.underlying34 rfl (by kernel_rfl)) rfl ?_
  obtain ⟨r1, r2, r3⟩ := rising_of_sorted (r :: full) (1 + full.length) d2 hd.out hperm.out hsort.out
  have kG : Blk W5 g 22 _ := Blk.put pW5 (by omega) hR4.blk
  refine ⟨_, _, rfl, Sl.of_row kG (by omega) hcm, r1, r2, by simp only; omega, ?_⟩
  exact hB0.out.trans (hB2.mono (by omega) |>.trans (SW5.mono (by omega)))

set_option maxRecDepth 100000 in
set_option maxHeartbeats 1000000 in
theorem network_none (p : OPort) (r o : Int) (w : World) (hp : PortAt w p) (hs : p.state = 6) (hk : 1 < p.kind ∨ p.full.length = 0) : Calls Try.prog 25 #[portVal p, .int .u32 r, .int .u8 o] w fun e w' =>
    e = .returned (.tuple #[.agg toldZ, .bool false]) ∧ Below w.heap.size w w' := by
  obtain ⟨kind, state, addr, netA, netB, pcost, dr, withDR, fv, full, remote⟩ := p
  obtain ⟨⟨_, A, c, hv, _⟩, _⟩ := hp
  simp only at hv hs hk
  subst hv hs
  have hB0 : Below w.heap.size w ((w.alloc (.cells #[.int .u8 kind, .int .u8 6, .int .u32 addr, .int .u32 netA, .int .u8 netB, .int .u16 pcost, .int .u32 dr, .bool withDR, .slice A full.length c, .int .u32 remote] 73)).alloc (.cells toldZ 34)) := ((Below.refl _ _).alloc (Nat.le_refl _) _).alloc (by simp) _
  have hT0 : Blk ((w.alloc (.cells #[.int .u8 kind, .int .u8 6, .int .u32 addr, .int .u32 netA, .int .u8 netB, .int .u16 pcost, .int .u32 dr, .bool withDR, .slice A full.length c, .int .u32 remote] 73)).alloc (.cells toldZ 34)) (w.heap.size + 1) 34 toldZ := heap_alloc2_new w _ _
  have hset := setRow_heap ((w.alloc (.cells #[.int .u8 kind, .int .u8 6, .int .u32 addr, .int .u32 netA, .int .u8 netB, .int .u16 pcost, .int .u32 dr, .bool withDR, .slice A full.length c, .int .u32 remote] 73)).alloc (.cells toldZ 34)) (w.heap.size + 1) _ toldZ 34 (0, 0) hT0
  rcases Int.lt_or_le 1 kind with hk1 | hk1
  · have hk2 : ¬ kind ≤ 1 := by omega
    clear hk
    go_enter Try.func25, Try.ntmps25
    go_wp2_with (refine wpList_store_row rfl 34 (.tmp 6) (.tmp 23) rfl (w.heap.size + 1) toldZ rfl rfl 34 _ hT0 (by kernel_rfl) rfl (by simp [Value.oneCell']) ?_)
    refine bodyPost_ret (results_cell_tmp_row rfl _ _ (w.heap.size + 1) 34 toldZ (0, 0) _ rfl (by first | exact hset | exact hT0) Try.underlying34 rfl (by kernel_rfl)) rfl ?_
    first | exact ⟨rfl, hB0⟩ | exact ⟨rfl, hB0.trans ⟨rfl, rfl, rfl, by simp [World.setRow], fun k hk => setRow_other _ _ k _ (by omega)⟩⟩
  · have hk2 : ¬ 1 < kind := by omega
    obtain rfl : full = [] := List.eq_nil_of_length_eq_zero (by omega)
    clear hk
    go_enter Try.func25, Try.ntmps25
    go_wp2_with (refine wpList_store_row rfl 34 (.tmp 6) (.tmp 23) rfl (w.heap.size + 1) toldZ rfl rfl 34 _ hT0 (by kernel_rfl) rfl (by simp [Value.oneCell']) ?_)
    refine bodyPost_ret (results_cell_tmp_row rfl _ _ (w.heap.size + 1) 34 toldZ (0, 0) _ rfl (by first | exact hset | exact hT0) Try.underlying34 rfl (by kernel_rfl)) rfl ?_
    first | exact ⟨rfl, hB0⟩ | exact ⟨rfl, hB0.trans ⟨rfl, rfl, rfl, by simp [World.setRow], fun k hk => setRow_other _ _ k _ (by omega)⟩⟩
end Go.Proofs.Ytdilbcmnfpmijaa
