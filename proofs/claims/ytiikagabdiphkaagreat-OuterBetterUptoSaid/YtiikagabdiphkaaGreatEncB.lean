/- The document's bytes of a head and of a state: lodestarref06.Head, Bytes. Conditions: the head's numbers are of their kinds, the body lies in memory. -/
import Derived.Test.YtiikagabdiphkaaGreatEncA
import Derived.Test.YtiikagabdiphkaaGreatOctE
namespace Go.Proofs.YtiikagabdiphkaaGreat
open Go.RowKit Go.Lo

/-- a row of bytes that grows beside one block -/
structure BS (w W : World) (g : Nat) (t : TypeId) (cs : Array Value) (v : Value) (L : List Int) : Prop where
  blk : Blk W g t cs
  own : W.ownsRow (g + 1) 5 1 v L.length (L.map u8c)
  far : Below g w W

theorem BS.step {w W w1 w3 : World} {g : Nat} {t : TypeId} {cs : Array Value} {v v3 : Value} {L M : List Int} (h : BS w W g t cs v L) (hw : g ≤ w.heap.size) (k : Below W.heap.size W w1) (hg : w1.grownBy w3 v.ownBlock) (ho : w3.ownsRow (g + 1) 5 1 v3 (L.length + M.length) (L.map u8c ++ M.map u8c)) : BS w w3 g t cs v3 (L ++ M) := by
  have h1 := h.blk.below k h.blk.lt
  refine ⟨h1.same (hg.block _ h1.lt (fun e => by have := (h.own.lt _ e.symm).1; omega)), ?_, (h.far.trans (k.mono (Nat.le_trans hw h.far.size))).trans (below_of_grown hg (Nat.le_trans (Nat.le_of_lt h1.lt) (Nat.le_refl _)) (fun b hb => by have := (h.own.lt _ hb).1; omega))⟩
  rw [List.length_append, List.map_append]
  exact ho

set_option maxRecDepth 100000 in
set_option maxHeartbeats 2000000 in
theorem rhead_any (h : OHead) (ok : HeadOk h) (w : World) : Calls Tryz.prog 98 #[.agg (headCells h).toArray] w fun x w' => ∃ s, x = .returned s ∧ w'.ownsRow w.heap.size 5 1 s 20 ((headB h).map u8c) ∧ Below w.heap.size w w' := by
  obtain ⟨age, opts, type, id, adv, seq, sum, len⟩ := h
  obtain ⟨o1, o2, o3, o4, o5, o6, o7, o8⟩ := ok
  simp only at o1 o2 o3 o4 o5 o6 o7 o8
  have hw := Nat.le_refl w.heap.size
  have S0 : BS w (w.alloc (.cells #[.int .u16 age, .int .u8 opts, .int .u8 type, .int .u32 id, .int .u32 adv, .int .i32 seq, .int .u16 sum, .int .u16 len] 51)) w.heap.size 51 #[.int .u16 age, .int .u8 opts, .int .u8 type, .int .u32 id, .int .u32 adv, .int .i32 seq, .int .u16 sum, .int .u16 len] (.slice none 0 0) [] := ⟨Blk.new _ _ _, World.ownsRow_nil _ _ _ _, (Below.refl _ _).alloc (Nat.le_refl _) _⟩
  have ws : IntKind.u32.wrap seq = seq % 4294967296 := rfl
  simp only [headCells]
  go_enter Tryz.func98, Tryz.ntmps98
  go_upto_region 1 with fail
  generalize w.alloc (.cells #[.int .u16 age, .int .u8 opts, .int .u8 type, .int .u32 id, .int .u32 adv, .int .i32 seq, .int .u16 sum, .int .u16 len] 51) = W0 at S0 ⊢
  have x0 := S0.blk.cell 0
  simp only [List.getElem?_toArray, List.getElem?_cons_zero] at x0
  have C := Lib.hid (two_any age o1 W0)
  go_upto_region 2 with (go_at_call 128; refine Calls.mono C.out ?_; rintro x W1 ⟨s, rfl, ho, k⟩)
  have S1 : BS w W1 w.heap.size 51 _ s (beN age 2) := ⟨S0.blk.below k S0.blk.lt, by rw [beN_len _ _ (by omega)]; exact own_less ho S0.blk.lt, S0.far.trans (k.mono S0.far.size)⟩
  clear C x0 S0 ho k
  have x1 := S1.blk.cell 1
  have x2 := S1.blk.cell 2
  simp only [List.getElem?_toArray, List.getElem?_cons_zero, List.getElem?_cons_succ] at x1 x2
  have hl1 : (beN age 2).length = 2 := beN_len _ _ (by omega)
  have O1 := S1.own
  rw [hl1] at O1
  obtain ⟨-, A1, c1, rfl, -⟩ := Sl.of_own O1
  replace O1 := Lib.hid O1
  have Z1 := S1.blk.lt
  replace S1 := Lib.hid S1
  go_upto_region 3 with (at_builtin; refine wpList_append rfl (.tmp 7) (.tmp 12) 52 rfl (w.heap.size + 1) u8T _ 2 ((beN age 2).map u8c) rfl (own_alloc O1.out _) _ _ 2 [.int .u8 opts, .int .u8 type] rfl (Sl.lit _ #[.int .u8 opts, .int .u8 type] 5 (by simp [maxLen]) rfl) (by simp [Value.oneCell']) (by simp only [maxLen]; omega) (by omega) (by simp; omega) ?_; intro v2 W2 ho hg hob)
  have S2 : BS w W2 w.heap.size 51 _ v2 (beN age 2 ++ [opts, type]) := S1.out.step hw ((Below.refl _ _).alloc (Nat.le_refl _) _) hg (by rw [hl1]; exact ho)
  clear ho hg hob O1 x1 x2 S1 hl1
  have x3 := S2.blk.cell 3
  simp only [List.getElem?_toArray, List.getElem?_cons_zero, List.getElem?_cons_succ] at x3
  have hl2 : (beN age 2 ++ [opts, type]).length = 4 := by simp [beN_len]
  have O2 := S2.own
  rw [hl2] at O2
  obtain ⟨-, A2, c2, rfl, -⟩ := Sl.of_own O2
  replace O2 := Lib.hid O2
  have Z2 := S2.blk.lt
  replace S2 := Lib.hid S2
  have C := Lib.hid (four_any (id) o4 W2)
  go_upto_region 4 with (first
    | (go_at_call 129; refine Calls.mono C.out ?_; rintro x Y3 ⟨s, rfl, hs, kk⟩; obtain ⟨-, As, cs, rfl, -⟩ := Sl.of_own hs; have hs2 := Lib.hid hs; clear hs; have kz := kk.size)
    | (at_builtin; refine wpList_append rfl (.tmp 14) (.tmp 17) 52 rfl (w.heap.size + 1) u8T _ 4 _ rfl (own_below O2.out kk) _ _ 4 _ rfl (Sl.of_own hs2.out) (u8s_oneCell _) (by simp only [maxLen]; omega) (by omega) (by omega) ?_; intro v3 W3 ho hg hob))
  have S3 : BS w W3 w.heap.size 51 _ v3 (beN age 2 ++ [opts, type] ++ beN (id) 4) := S2.out.step hw kk hg (by rw [hl2, beN_len _ _ (by omega)]; exact ho)
  clear ho hg hob O2 x3 S2 hl2 C hs2 kk
  have x4 := S3.blk.cell 4
  simp only [List.getElem?_toArray, List.getElem?_cons_zero, List.getElem?_cons_succ] at x4
  have hl3 : (beN age 2 ++ [opts, type] ++ beN (id) 4).length = 8 := by simp [beN_len]
  have O3 := S3.own
  rw [hl3] at O3
  obtain ⟨-, A3, c3, rfl, -⟩ := Sl.of_own O3
  replace O3 := Lib.hid O3
  have Z3 := S3.blk.lt
  replace S3 := Lib.hid S3
  have C := Lib.hid (four_any (adv) o5 W3)
  go_upto_region 5 with (first
    | (go_at_call 129; refine Calls.mono C.out ?_; rintro x Y4 ⟨s, rfl, hs, kk⟩; obtain ⟨-, As, cs, rfl, -⟩ := Sl.of_own hs; have hs2 := Lib.hid hs; clear hs; have kz := kk.size)
    | (at_builtin; refine wpList_append rfl (.tmp 19) (.tmp 22) 52 rfl (w.heap.size + 1) u8T _ 8 _ rfl (own_below O3.out kk) _ _ 4 _ rfl (Sl.of_own hs2.out) (u8s_oneCell _) (by simp only [maxLen]; omega) (by omega) (by omega) ?_; intro v4 W4 ho hg hob))
  have S4 : BS w W4 w.heap.size 51 _ v4 (beN age 2 ++ [opts, type] ++ beN (id) 4 ++ beN (adv) 4) := S3.out.step hw kk hg (by rw [hl3, beN_len _ _ (by omega)]; exact ho)
  clear ho hg hob O3 x4 S3 hl3 C hs2 kk
  have x5 := S4.blk.cell 5
  simp only [List.getElem?_toArray, List.getElem?_cons_zero, List.getElem?_cons_succ] at x5
  have hl4 : (beN age 2 ++ [opts, type] ++ beN (id) 4 ++ beN (adv) 4).length = 12 := by simp [beN_len]
  have O4 := S4.own
  rw [hl4] at O4
  obtain ⟨-, A4, c4, rfl, -⟩ := Sl.of_own O4
  replace O4 := Lib.hid O4
  have Z4 := S4.blk.lt
  replace S4 := Lib.hid S4
  have C := Lib.hid (four_any (seq % 4294967296) (by omega) W4)
  go_upto_region 6 with (first
    | (go_at_call 129; refine Calls.mono C.out ?_; rintro x Y5 ⟨s, rfl, hs, kk⟩; obtain ⟨-, As, cs, rfl, -⟩ := Sl.of_own hs; have hs2 := Lib.hid hs; clear hs; have kz := kk.size)
    | (at_builtin; refine wpList_append rfl (.tmp 24) (.tmp 28) 52 rfl (w.heap.size + 1) u8T _ 12 _ rfl (own_below O4.out kk) _ _ 4 _ rfl (Sl.of_own hs2.out) (u8s_oneCell _) (by simp only [maxLen]; omega) (by omega) (by omega) ?_; intro v5 W5 ho hg hob))
  have S5 : BS w W5 w.heap.size 51 _ v5 (beN age 2 ++ [opts, type] ++ beN (id) 4 ++ beN (adv) 4 ++ beN (seq % 4294967296) 4) := S4.out.step hw kk hg (by rw [hl4, beN_len _ _ (by omega)]; exact ho)
  clear ho hg hob O4 x5 S4 hl4 C hs2 kk
  have x6 := S5.blk.cell 6
  simp only [List.getElem?_toArray, List.getElem?_cons_zero, List.getElem?_cons_succ] at x6
  have hl5 : (beN age 2 ++ [opts, type] ++ beN (id) 4 ++ beN (adv) 4 ++ beN (seq % 4294967296) 4).length = 16 := by simp [beN_len]
  have O5 := S5.own
  rw [hl5] at O5
  obtain ⟨-, A5, c5, rfl, -⟩ := Sl.of_own O5
  replace O5 := Lib.hid O5
  have Z5 := S5.blk.lt
  replace S5 := Lib.hid S5
  have C := Lib.hid (two_any (sum) o7 W5)
  go_upto_region 7 with (first
    | (go_at_call 128; refine Calls.mono C.out ?_; rintro x Y6 ⟨s, rfl, hs, kk⟩; obtain ⟨-, As, cs, rfl, -⟩ := Sl.of_own hs; have hs2 := Lib.hid hs; clear hs; have kz := kk.size)
    | (at_builtin; refine wpList_append rfl (.tmp 30) (.tmp 33) 52 rfl (w.heap.size + 1) u8T _ 16 _ rfl (own_below O5.out kk) _ _ 2 _ rfl (Sl.of_own hs2.out) (u8s_oneCell _) (by simp only [maxLen]; omega) (by omega) (by omega) ?_; intro v6 W6 ho hg hob))
  have S6 : BS w W6 w.heap.size 51 _ v6 (beN age 2 ++ [opts, type] ++ beN (id) 4 ++ beN (adv) 4 ++ beN (seq % 4294967296) 4 ++ beN (sum) 2) := S5.out.step hw kk hg (by rw [hl5, beN_len _ _ (by omega)]; exact ho)
  clear ho hg hob O5 x6 S5 hl5 C hs2 kk
  have x7 := S6.blk.cell 7
  simp only [List.getElem?_toArray, List.getElem?_cons_zero, List.getElem?_cons_succ] at x7
  have hl6 : (beN age 2 ++ [opts, type] ++ beN (id) 4 ++ beN (adv) 4 ++ beN (seq % 4294967296) 4 ++ beN (sum) 2).length = 18 := by simp [beN_len]
  have O6 := S6.own
  rw [hl6] at O6
  obtain ⟨-, A6, c6, rfl, -⟩ := Sl.of_own O6
  replace O6 := Lib.hid O6
  have Z6 := S6.blk.lt
  replace S6 := Lib.hid S6
  have C := Lib.hid (two_any (len) o8 W6)
  go_wp2_with (first
    | (go_at_call 128; refine Calls.mono C.out ?_; rintro x Y7 ⟨s, rfl, hs, kk⟩; obtain ⟨-, As, cs, rfl, -⟩ := Sl.of_own hs; have hs2 := Lib.hid hs; clear hs; have kz := kk.size)
    | (at_builtin; refine wpList_append rfl (.tmp 35) (.tmp 38) 52 rfl (w.heap.size + 1) u8T _ 18 _ rfl (own_below O6.out kk) _ _ 2 _ rfl (Sl.of_own hs2.out) (u8s_oneCell _) (by simp only [maxLen]; omega) (by omega) (by omega) ?_; intro v7 W7 ho hg hob))
  have S7 := S6.out.step (M := beN (len) 2) hw kk hg (by rw [hl6, beN_len _ _ (by omega)]; exact ho)
  go_ret
  refine ⟨_, rfl, ?_, S7.far⟩
  have O := own_less S7.own (Nat.le_succ _)
  rw [show (beN age 2 ++ [opts, type] ++ beN (id) 4 ++ beN (adv) 4 ++ beN (seq % 4294967296) 4 ++ beN (sum) 2 ++ beN (len) 2).length = 20 from by simp [beN_len]] at O
  rw [show headB ⟨age, opts, type, id, adv, seq, sum, len⟩ = beN age 2 ++ [opts, type] ++ beN (id) 4 ++ beN (adv) 4 ++ beN (seq % 4294967296) 4 ++ beN (sum) 2 ++ beN (len) 2 from by simp [headB]]
  exact O

set_option maxRecDepth 100000 in
set_option maxHeartbeats 1000000 in
theorem rbytes_any (h : OHead) (ok : HeadOk h) (B : Nat) (bv : Value) (body : List Int) (w : World) (hb : Sl w B 1 bv body.length (body.map u8c)) (hB : B ≤ w.heap.size) (hn : body.length ≤ 1099511627776) :
    Calls Tryz.prog 56 #[stateVal h bv] w fun x w' => ∃ v, x = .returned v ∧ w'.ownsRow w.heap.size 5 1 v (headB h ++ body).length ((headB h ++ body).map u8c) ∧ Below w.heap.size w w' := by
  have hb0 := hb
  have hL := headB_len h
  obtain ⟨-, A, c, rfl, -⟩ := hb
  have qB : Below w.heap.size w (w.alloc (.cells #[.int .u16 h.age, .int .u8 h.opts, .int .u8 h.type, .int .u32 h.id, .int .u32 h.adv, .int .i32 h.seq, .int .u16 h.sum, .int .u16 h.len, .slice A body.length c] 54)) := (Below.refl _ _).alloc (Nat.le_refl _) _
  have q0 : Blk (w.alloc (.cells #[.int .u16 h.age, .int .u8 h.opts, .int .u8 h.type, .int .u32 h.id, .int .u32 h.adv, .int .i32 h.seq, .int .u16 h.sum, .int .u16 h.len, .slice A body.length c] 54)) w.heap.size 54 #[.int .u16 h.age, .int .u8 h.opts, .int .u8 h.type, .int .u32 h.id, .int .u32 h.adv, .int .i32 h.seq, .int .u16 h.sum, .int .u16 h.len, .slice A body.length c] := Blk.new _ _ _
  have C := fun W => rhead_any h ok W
  simp only [headCells] at C
  generalize headB h = L at C hL ⊢
  replace C := Lib.hid C
  have hLL := Lib.hid hL
  clear hL
  go_enter Tryz.func56, Tryz.ntmps56
  go_upto_region 2 with (go_at_call 98; refine Calls.mono (C.out _) ?_; rintro x w1 ⟨s, rfl, ho, k⟩)
  have k1 := qB.trans (k.mono qB.size)
  have hb1 := hb0.below (k1.mono hB)
  have x8 := (q0.below k q0.lt).cell 8
  simp only [List.getElem?_toArray, List.getElem?_cons_zero, List.getElem?_cons_succ] at x8
  have hz := qB.size
  have ho1 := own_less ho hz
  have hz1 := k1.size
  clear ho k q0 hb0
  obtain ⟨-, A1, c1, rfl, -⟩ := Sl.of_own ho1
  replace ho1 := Lib.hid ho1
  go_wp2_with (at_builtin; refine wpList_append rfl (.tmp 7) (.tmp 9) 52 rfl w.heap.size u8T _ 20 _ rfl ho1.out B _ body.length _ rfl hb1 (u8s_oneCell _) (by simp only [maxLen]; omega) (by omega) hz1 ?_; intro v3 w3 ho3 hg3 hob3)
  go_ret
  refine ⟨_, rfl, ?_, k1.trans (below_of_grown hg3 hz1 (fun b hb => (ho1.out.lt _ hb).1))⟩
  rw [List.length_append, List.map_append, hLL.out]
  exact ho3
end Go.Proofs.YtiikagabdiphkaaGreat
