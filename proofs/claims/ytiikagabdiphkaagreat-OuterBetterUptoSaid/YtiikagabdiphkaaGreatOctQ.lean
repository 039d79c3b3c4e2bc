/- state.Decode of a summary's state. Conditions: the head's numbers are of their kinds, the body lies in memory. -/
import Derived.Test.YtiikagabdiphkaaGreatOctP
namespace Go.Proofs.YtiikagabdiphkaaGreat
open Go.RowKit Go.Lo

/-- what Decode says of a summary's body: its mask, its metric, what is wrong -/
def decS (body : List Int) : Int × Int × Nat × Int :=
  let s := nextS body 0 0 4
  let s2 := nextS body s.1 s.2 4
  (numB (nextB body 0 0 4), numB (nextB body s.1 s.2 4), s2)
def decP (t : Nat) (body : List Int) : Int × Int × Int :=
  let d := decS body
  if d.2.2.2 ≠ 0 ∨ 0 < leftR body d.2.2.1 d.2.2.2 then (0, 0, 28)
  else if mayB t d.1 d.2.1 = false then (0, 0, 28)
  else if beN d.1 4 ++ beN d.2.1 4 ≠ body then (0, 0, 28)
  else (d.1, d.2.1, 0)

theorem decS_m (body : List Int) : 0 ≤ (decS body).1 ∧ (decS body).1 < 4294967296 := numB_range _
theorem decS_k (body : List Int) : 0 ≤ (decS body).2.1 ∧ (decS body).2.1 < 4294967296 := numB_range _

theorem form34 (t : Nat) (ht : t = 3 ∨ t = 4) (w : World) : Calls Tryz.prog 105 #[.int .u8 t] w fun x w' => x = .returned (.agg #[.func (.func 183) #[] #[], .func (.func 184) #[] #[]]) ∧ Below w.heap.size w w' := by
  rcases ht with rfl | rfl
  · exact formOf_any 3 (by omega) w
  · exact formOf_any 4 (by omega) w

set_option maxRecDepth 100000 in
set_option maxHeartbeats 2000000 in
theorem decode_ok (t : Nat) (ht : t = 3 ∨ t = 4) (h : OHead) (B : Nat) (bv : Value) (body : List Int) (w : World) (hb : Sl w B 1 bv body.length (body.map u8c)) (hB : B ≤ w.heap.size) (hn : body.length ≤ 1099511627776) (hl8 : ∀ x ∈ body, 0 ≤ x ∧ x < 256)
    (hty : h.type = t) (hlen : h.len = 20 + (body.length : Int)) :
    Calls Tryz.prog 62 #[stateVal h bv] w fun x w' => x = .returned (.tuple #[.agg (sumC (decP t body).1 (decP t body).2.1), .int .i64 (decP t body).2.2]) ∧ Below w.heap.size w w' := by
  obtain ⟨age, opts, type, id, adv, seq, sum, len⟩ := h
  simp only at hty hlen
  subst hty hlen
  have hb0 := hb
  obtain ⟨-, A, c, rfl, -⟩ := hb
  dsimp only [stateVal]
  have wl : wrap64 (20 + (body.length : Int)) = 20 + (body.length : Int) := by unfold wrap64; omega
  have q1 : Blk (((w.alloc (.cells #[.int .u16 age, .int .u8 opts, .int .u8 (t : Int), .int .u32 id, .int .u32 adv, .int .i32 seq, .int .u16 sum, .int .u16 (20 + (body.length : Int)), .slice A body.length c] 54)).alloc (.cells (sumC 0 0) 93)).alloc (.cells #[.int .i64 0] 56)) (w.heap.size + 1) 93 (sumC 0 0) := (Blk.new_ _ (by simp)).alloc _
  have q2 : Blk (((w.alloc (.cells #[.int .u16 age, .int .u8 opts, .int .u8 (t : Int), .int .u32 id, .int .u32 adv, .int .i32 seq, .int .u16 sum, .int .u16 (20 + (body.length : Int)), .slice A body.length c] 54)).alloc (.cells (sumC 0 0) 93)).alloc (.cells #[.int .i64 0] 56)) (w.heap.size + 1 + 1) 56 #[.int .i64 0] := Blk.new_ _ (by simp)
  have q0 : Blk (((w.alloc (.cells #[.int .u16 age, .int .u8 opts, .int .u8 (t : Int), .int .u32 id, .int .u32 adv, .int .i32 seq, .int .u16 sum, .int .u16 (20 + (body.length : Int)), .slice A body.length c] 54)).alloc (.cells (sumC 0 0) 93)).alloc (.cells #[.int .i64 0] 56)) w.heap.size 54 #[.int .u16 age, .int .u8 opts, .int .u8 (t : Int), .int .u32 id, .int .u32 adv, .int .i32 seq, .int .u16 sum, .int .u16 (20 + (body.length : Int)), .slice A body.length c] := ((Blk.new _ _ _).alloc _).alloc _
  have qB : Below w.heap.size w (((w.alloc (.cells #[.int .u16 age, .int .u8 opts, .int .u8 (t : Int), .int .u32 id, .int .u32 adv, .int .i32 seq, .int .u16 sum, .int .u16 (20 + (body.length : Int)), .slice A body.length c] 54)).alloc (.cells (sumC 0 0) 93)).alloc (.cells #[.int .i64 0] 56)) := ((Below.refl _ _).alloc (Nat.le_refl _) _ |>.alloc (by simp) _).alloc (by simp; omega) _
  go_enter_defers Tryz.func62, Tryz.ntmps62
  go_upto_region 4 with fail
  generalize ((w.alloc (.cells #[.int .u16 age, .int .u8 opts, .int .u8 (t : Int), .int .u32 id, .int .u32 adv, .int .i32 seq, .int .u16 sum, .int .u16 (20 + (body.length : Int)), .slice A body.length c] 54)).alloc (.cells (sumC 0 0) 93)).alloc (.cells #[.int .i64 0] 56) = w0 at q0 q1 q2 qB ⊢
  have x2 := q0.cell 2
  have x8 := q0.cell 8
  simp only [List.getElem?_toArray, List.getElem?_cons_zero, List.getElem?_cons_succ] at x2 x8
  have kl := q2.lt
  go_upto_region 5 with (go_at_call 105; refine Calls.mono (form34 t ht _) ?_; rintro x w1 ⟨rfl, k1⟩)
  have p0 : Blk (w1.alloc (.cells #[.func (.func 183) #[] #[], .func (.func 184) #[] #[]] 181)) w1.heap.size 181 #[.func (.func 183) #[] #[], .func (.func 184) #[] #[]] := Blk.new _ _ _
  have k2 : Below w0.heap.size w0 (w1.alloc (.cells #[.func (.func 183) #[] #[], .func (.func 184) #[] #[]] 181)) := k1.alloc k1.size _
  have kz1 := k1.size
  generalize w1.alloc (.cells #[.func (.func 183) #[] #[], .func (.func 184) #[] #[]] 181) = w2 at p0 k2 ⊢
  generalize w1.heap.size = g at p0 kz1 ⊢
  clear x2 x8 k1
  have q0' := q0.below k2 q0.lt
  have q1' := q1.below k2 q1.lt
  have q2' := q2.below k2 q2.lt
  have kB2 := qB.trans (k2.mono qB.size)
  have hb2 := hb0.below (kB2.mono hB)
  clear q0 q1 q2 qB k2
  have hz0 := q2'.lt
  have x8 := q0'.cell 8
  have y0 := p0.cell 0
  have y1 := p0.cell 1
  simp only [List.getElem?_toArray, List.getElem?_cons_zero, List.getElem?_cons_succ] at x8 y0 y1
  have CR := Lib.hid (rread_any B _ body w2 hb2 (Nat.le_trans hB kB2.size) (by omega))
  have CS := Lib.hid (fun b W (hR : Rd W b body 0 0) => readSummary_any b body 0 0 W hR (by omega) hl8)
  have hs : ((numB (nextB body 0 0 4)), (numB (nextB body (nextS body 0 0 4).1 (nextS body 0 0 4).2 4)), nextS body (nextS body 0 0 4).1 (nextS body 0 0 4).2 4) = decS body := rfl
  have hm := decS_m body
  have hk := decS_k body
  have hd : decP t body = if (decS body).2.2.2 ≠ 0 ∨ 0 < leftR body (decS body).2.2.1 (decS body).2.2.2 then (0, 0, 28) else if mayB t (decS body).1 (decS body).2.1 = false then (0, 0, 28) else if beN (decS body).1 4 ++ beN (decS body).2.1 4 ≠ body then (0, 0, 28) else ((decS body).1, (decS body).2.1, 0) := rfl
  generalize decS body = d at hs hm hk hd
  obtain ⟨m, k, a, e⟩ := d
  simp only [Prod.mk.injEq] at hs
  obtain ⟨hs1, hs2, hs3⟩ := hs
  rw [hs1, hs2, hs3] at CS
  dsimp only at CS hd hm hk
  clear hs1 hs2 hs3
  go_upto_region 6 with (go_at_call 106; refine Calls.mono CR.out ?_; rintro x w3 ⟨b, rfl, hb3, hR3, k3⟩)
  have y1' : w3.cell? ⟨g, 1, none⟩ = some (.func (.func 184) #[] #[]) := ((p0.below k3 p0.lt).cell 1)
  go_upto_region 7 with (go_at_call 184; refine Calls.mono (CS.out b _ hR3) ?_; rintro x w4 ⟨rfl, hR4, k4⟩)
  have kb3 : b < w3.heap.size := hR3.lt
  have kz4 := k4.size
  have r0 : Blk (w4.alloc (.cells (sumC m k) 93)) w4.heap.size 93 (sumC m k) := Blk.new _ _ _
  have k5 : Below w2.heap.size w2 (w4.alloc (.cells (sumC m k) 93)) := (k3.trans (k4.mono hb3)).alloc (Nat.le_trans k3.size kz4) _
  have hR5 : Rd (w4.alloc (.cells (sumC m k) 93)) b body a e := hR4.below ((Below.refl _ _).alloc (Nat.le_refl _) _) hR4.lt
  have hz5 : w4.heap.size < (w4.alloc (.cells (sumC m k) 93)).heap.size := by simp
  generalize (w4.alloc (.cells (sumC m k) 93)) = w5 at r0 k5 hR5 hz5 ⊢
  obtain ⟨g6, hg6⟩ : ∃ g6, g6 = w4.heap.size := ⟨_, rfl⟩
  rw [← hg6] at r0 hz5 ⊢
  have hl6 : w2.heap.size ≤ g6 := by rw [hg6]; exact Nat.le_trans k3.size kz4
  clear hg6 CS CR y1' hR4 hR3 k3 k4 kz4 kb3 y1 x8
  have q1 := q1'.below k5 q1'.lt
  have q2 := q2'.below k5 q2'.lt
  have p5 := p0.below k5 p0.lt
  have kB5 := kB2.trans (k5.mono kB2.size)
  have hb5 := hb0.below (kB5.mono hB)
  have q0 := q0'.below k5 q0'.lt
  have x8 := q0.cell 8
  have x2 := q0.cell 2
  have y0' := p5.cell 0
  simp only [List.getElem?_toArray, List.getElem?_cons_zero, List.getElem?_cons_succ] at x8 x2 y0'
  have n1 := p0.lt
  clear q0' q1' q2' p0 hb2 k5 y0 kB2
  by_cases he : e = 0
  · subst he
    by_cases hleft : 0 < leftR body a 0
    · have he1 : decide (0 < leftR body a 0) = true := decide_eq_true hleft
      rw [if_pos (.inr hleft)] at hd
      go_upto_region 8 with (first
        | (go_at_call 107; refine Calls.mono (rerr_any b body a 0 _ hR5) ?_; rintro x w6 ⟨rfl, rfl⟩)
        | (go_at_call 108; refine Calls.mono (rleft_any b body a 0 _ hR5 (by omega)) ?_; rintro x w7 ⟨rfl, k7⟩))
      have q1 := q1.below k7 q1.lt
      have q2 := q2.below k7 q2.lt
      have hs1 : Blk (w7.setRow (w.heap.size + 1) (sumC 0 0)) (w.heap.size + 1) 93 (sumC 0 0) := setRow_heap w7 _ (sumC 0 0) (sumC 0 0) 93 (0, 0) q1
      have hs2 : Blk (w7.setRow (w.heap.size + 1) (sumC 0 0)) (w.heap.size + 1 + 1) 56 #[.int .i64 0] := (setRow_other _ _ _ _ (by omega)).trans q2
      have hsB : Below w.heap.size w (w7.setRow (w.heap.size + 1) (sumC 0 0)) := (kB5.trans (k7.mono kB5.size)).trans ⟨rfl, rfl, rfl, by simp [World.setRow], fun k hk => setRow_other _ _ k _ (by omega)⟩
      have c2 := hs2.cell 0
      have f2 := hs2.free 0
      simp only [List.getElem?_toArray, List.getElem?_cons_zero] at c2
      go_wp2_with (refine wpList_store_row rfl 93 (.tmp 2) (.tmp 39) rfl (w.heap.size + 1) (sumC 0 0) rfl rfl 93 (sumC 0 0) q1 (by kernel_rfl) rfl (by simp [Value.oneCell']) ?_)
      refine decode_idle _ _ (w.heap.size + 1) (w.heap.size + 1 + 1) 0 0 28 _ rfl rfl ?_ ?_ ?_
      · exact hs1.far (by simp) _
      · exact hs2.set_ 0 _
      · rw [hd]
        exact ⟨rfl, hsB.setCell (by simp; omega) _⟩
    · have he1 : decide (0 < leftR body a 0) = false := decide_eq_false hleft
      rw [if_neg (by simp [hleft])] at hd
      go_upto_region 9 with (first
        | (go_at_call 107; refine Calls.mono (rerr_any b body a 0 _ hR5) ?_; rintro x w6 ⟨rfl, rfl⟩)
        | (go_at_call 108; refine Calls.mono (rleft_any b body a 0 _ hR5 (by omega)) ?_; rintro x w7 ⟨rfl, k7⟩))
      have q0 := q0.below k7 q0.lt
      have q1 := q1.below k7 q1.lt
      have q2 := q2.below k7 q2.lt
      have p5 := p5.below k7 p5.lt
      have r0 := r0.below k7 r0.lt
      have hb5 := hb5.below (k7.mono (Nat.le_trans hB kB5.size))
      have kB5 := kB5.trans (k7.mono kB5.size)
      clear x8 x2 y0' k7 hR5
      have x2 := q0.cell 2
      simp only [List.getElem?_toArray, List.getElem?_cons_zero, List.getElem?_cons_succ] at x2
      cases hmay : mayB t m k
      · rw [if_pos hmay] at hd
        go_wp2_with (first
          | (refine wpList_load_row rfl 93 (.tmp 6) rfl g6 rfl 93 (sumC m k) (0, 0) _ r0 Tryz.underlying93 rfl (by kernel_rfl) ?_)
          | (go_at_call 109; refine Calls.mono (may_no t ht m k hmay _) ?_; rintro x w8 ⟨rfl, k8⟩; unfold thrown; dsimp only))
        refine decode_thrown _ _ (w.heap.size + 1) (w.heap.size + 1 + 1) 0 0 28 0 _ rfl rfl (by omega) (q1.below k8 q1.lt) (q2.below k8 q2.lt) ?_
        rw [hd]
        exact ⟨rfl, (kB5.trans (k8.mono kB5.size)).setCell (by simp; omega) _⟩
      · rw [if_neg (by simp [hmay])] at hd
        go_upto_region 11 with (first
          | (refine wpList_load_row rfl 93 (.tmp 6) rfl g6 rfl 93 (sumC m k) (0, 0) _ r0 Tryz.underlying93 rfl (by kernel_rfl) ?_)
          | (go_at_call 109; refine Calls.mono (may_yes t ht m k hmay _) ?_; rintro x w8 ⟨rfl, k8⟩)
          | (go_at_call 110; refine Calls.mono (write_any _ (by omega) _) ?_; rintro x w' ⟨rfl, rfl⟩))
        have hz8 := k8.size
        have s1 := r0.lt
        have s2 := p5.lt
        have s3 := q2.lt
        have v0 : Blk ((w8.alloc (.cells #[.slice none 0 0, .int .i64 65535, .int .i64 0, .bool true] 227)).alloc (.cells #[.pointer (some ⟨w8.heap.size, 0, none⟩)] 191)) w8.heap.size 227 #[.slice none 0 0, .int .i64 65535, .int .i64 0, .bool true] := (Blk.new _ _ _).alloc _
        have v1 : Blk ((w8.alloc (.cells #[.slice none 0 0, .int .i64 65535, .int .i64 0, .bool true] 227)).alloc (.cells #[.pointer (some ⟨w8.heap.size, 0, none⟩)] 191)) (w8.heap.size + 1) 191 #[.pointer (some ⟨w8.heap.size, 0, none⟩)] := Blk.new_ _ (by simp)
        have k9 : Below w7.heap.size w7 ((w8.alloc (.cells #[.slice none 0 0, .int .i64 65535, .int .i64 0, .bool true] 227)).alloc (.cells #[.pointer (some ⟨w8.heap.size, 0, none⟩)] 191)) := (k8.alloc hz8 _).alloc (by simp; omega) _
        have kz9 : ((w8.alloc (.cells #[.slice none 0 0, .int .i64 65535, .int .i64 0, .bool true] 227)).alloc (.cells #[.pointer (some ⟨w8.heap.size, 0, none⟩)] 191)).heap.size = w8.heap.size + 1 + 1 := by simp
        generalize ((w8.alloc (.cells #[.slice none 0 0, .int .i64 65535, .int .i64 0, .bool true] 227)).alloc (.cells #[.pointer (some ⟨w8.heap.size, 0, none⟩)] 191)) = w9 at v0 v1 k9 kz9 ⊢
        have q1 := q1.below k9 q1.lt
        have q2 := q2.below k9 q2.lt
        have p5 := p5.below k9 p5.lt
        have r0 := r0.below k9 r0.lt
        have hb5 := hb5.below (k9.mono (Nat.le_trans hB kB5.size))
        have kB5 := kB5.trans (k9.mono kB5.size)
        obtain ⟨g8, hg8⟩ : ∃ g8, g8 = w8.heap.size := ⟨_, rfl⟩
        rw [← hg8] at v0 v1 kz9 hz8 ⊢
        clear hg8
        have ng : ∀ {x : Nat} {tt : TypeId} {cs : Array Value}, Blk w7 x tt cs → x ≠ g8 ∧ x ≠ g8 + 1 := fun hx => by have := hx.lt; omega
        obtain ⟨K, hK⟩ : ∃ K : Nat → Prop, K = fun j => j < g8 + 2 ∧ j ≠ g8 := ⟨_, rfl⟩
        have kl9 : ∀ j, K j → j < w9.heap.size := fun j hj => by rw [hK] at hj; have := hj.1; omega
        have kb9 : ∀ j, j < g8 → K j := fun j hj => by rw [hK]; exact ⟨by omega, by omega⟩
        have kv9 : K (g8 + 1) := by rw [hK]; exact ⟨by omega, by omega⟩
        have hW9 : Wr K w9 g8 65535 [] 0 := ⟨by rw [hK]; exact fun h => h.2 rfl, _, v0, World.ownsRow_nil _ _ _ _, by simp [Value.ownBlock]⟩
        have CW := Lib.hid (writeSummary_any K g8 65535 [] m k hm hk w9 hW9 kl9 (by omega) (by simp))
        have y0 := p5.cell 0
        have z0 := v1.cell 0
        simp only [List.getElem?_toArray, List.getElem?_cons_zero] at y0 z0
        have n7 : g6 < g8 := by omega
        have n8 : g < g8 := by omega
        have n9 : w.heap.size + 1 + 1 < g8 := by omega
        clear x2 hW9 hK ng
        go_upto_region 12 with (first
          | (refine wpList_load_row rfl 93 (.tmp 6) rfl g6 rfl 93 (sumC m k) (0, 0) _ r0 Tryz.underlying93 rfl (by kernel_rfl) ?_)
          | (go_at_call 183; refine Calls.mono CW.out ?_; rintro x w10 ⟨rfl, k10, hW10⟩))
        rw [List.nil_append] at hW10
        clear CW y0 z0
        have q1 := k10.blk (kb9 _ (by omega)) q1
        have q2 := k10.blk (kb9 _ (by omega)) q2
        have r0 := k10.blk (kb9 _ (by omega)) r0
        have v1 := k10.blk kv9 v1
        have hb5 := k10.sl (fun j hj => kb9 j (by omega)) hb5
        have q0 := k10.blk (kb9 _ (by omega)) (q0.below k9 q0.lt)
        have kB5 := kB5.trans (k10.below (fun j hj => kb9 j (by omega)))
        have CD := Lib.hid (done_any K g8 65535 (beN m 4 ++ beN k 4) 0 w10 hW10 (by rw [List.length_append, beN_len _ _ (Nat.le_refl 4), beN_len _ _ (Nat.le_refl 4)]; omega))
        rw [show doneBs 0 (beN m 4 ++ beN k 4) = beN m 4 ++ beN k 4 from rfl] at CD
        have z0 := v1.cell 0
        simp only [List.getElem?_toArray, List.getElem?_cons_zero] at z0
        clear p5
        go_upto_region 13 with (go_at_call 111; refine Calls.mono CD.out ?_; rintro x w11 ⟨v, rfl, ho11, k11⟩)
        clear CD z0
        have q1 := q1.below k11 q1.lt
        have q2 := q2.below k11 q2.lt
        have r0 := r0.below k11 r0.lt
        have q0 := q0.below k11 q0.lt
        have hb5 := hb5.below (k11.mono (Nat.le_trans hB kB5.size))
        have kB5 := kB5.trans (k11.mono kB5.size)
        have x8 := q0.cell 8
        simp only [List.getElem?_toArray, List.getElem?_cons_zero, List.getElem?_cons_succ] at x8
        have CE := Lib.hid (equal8_any _ B v _ (beN m 4 ++ beN k 4) body w11 (Sl.of_own ho11) hb5 (by rw [List.length_append, beN_len _ _ (Nat.le_refl 4), beN_len _ _ (Nat.le_refl 4)]; omega))
        by_cases heq : beN m 4 ++ beN k 4 = body
        · rw [if_neg (by simp [heq])] at hd
          rw [decide_eq_true heq] at CE
          go_upto_region 15 with (go_at_call 112; refine Calls.mono CE.out ?_; rintro x w12 ⟨rfl, k12⟩)
          have q1 := q1.below k12 q1.lt
          have q2 := q2.below k12 q2.lt
          have r0 := r0.below k12 r0.lt
          have kB5 := kB5.trans (k12.mono kB5.size)
          have hs1 : Blk (w12.setRow (w.heap.size + 1) (sumC m k)) (w.heap.size + 1) 93 (sumC m k) := setRow_heap w12 _ (sumC 0 0) (sumC m k) 93 (0, 0) q1
          have hs2 : Blk (w12.setRow (w.heap.size + 1) (sumC m k)) (w.heap.size + 1 + 1) 56 #[.int .i64 0] := (setRow_other _ _ _ _ (by omega)).trans q2
          have hsB : Below w.heap.size w (w12.setRow (w.heap.size + 1) (sumC m k)) := kB5.trans ⟨rfl, rfl, rfl, by simp [World.setRow], fun k hk => setRow_other _ _ k _ (by omega)⟩
          have c2 := hs2.cell 0
          have f2 := hs2.free 0
          simp only [List.getElem?_toArray, List.getElem?_cons_zero] at c2
          go_wp2_with (first
            | (refine wpList_load_row rfl 93 (.tmp 6) rfl g6 rfl 93 (sumC m k) (0, 0) _ r0 Tryz.underlying93 rfl (by kernel_rfl) ?_)
            | (refine wpList_store_row rfl 93 (.tmp 2) (.tmp 64) rfl (w.heap.size + 1) (sumC m k) rfl rfl 93 (sumC 0 0) q1 (by kernel_rfl) rfl (by simp [Value.oneCell']) ?_))
          refine decode_idle _ _ (w.heap.size + 1) (w.heap.size + 1 + 1) m k 0 _ rfl rfl ?_ ?_ ?_
          · exact hs1.far (by simp) _
          · exact hs2.set_ 0 _
          · rw [hd]
            exact ⟨rfl, hsB.setCell (by simp; omega) _⟩
        · rw [if_pos heq] at hd
          rw [decide_eq_false heq] at CE
          go_upto_region 14 with (go_at_call 112; refine Calls.mono CE.out ?_; rintro x w12 ⟨rfl, k12⟩)
          have q1 := q1.below k12 q1.lt
          have q2 := q2.below k12 q2.lt
          have kB5 := kB5.trans (k12.mono kB5.size)
          have hs1 : Blk (w12.setRow (w.heap.size + 1) (sumC 0 0)) (w.heap.size + 1) 93 (sumC 0 0) := setRow_heap w12 _ (sumC 0 0) (sumC 0 0) 93 (0, 0) q1
          have hs2 : Blk (w12.setRow (w.heap.size + 1) (sumC 0 0)) (w.heap.size + 1 + 1) 56 #[.int .i64 0] := (setRow_other _ _ _ _ (by omega)).trans q2
          have hsB : Below w.heap.size w (w12.setRow (w.heap.size + 1) (sumC 0 0)) := kB5.trans ⟨rfl, rfl, rfl, by simp [World.setRow], fun k hk => setRow_other _ _ k _ (by omega)⟩
          have c2 := hs2.cell 0
          have f2 := hs2.free 0
          simp only [List.getElem?_toArray, List.getElem?_cons_zero] at c2
          go_wp2_with (first
            | (refine wpList_load_row rfl 93 (.tmp 6) rfl g6 rfl 93 (sumC m k) (0, 0) _ r0 Tryz.underlying93 rfl (by kernel_rfl) ?_)
            | (refine wpList_store_row rfl 93 (.tmp 2) (.tmp 63) rfl (w.heap.size + 1) (sumC 0 0) rfl rfl 93 (sumC 0 0) q1 (by kernel_rfl) rfl (by simp [Value.oneCell']) ?_))
          refine decode_idle _ _ (w.heap.size + 1) (w.heap.size + 1 + 1) 0 0 28 _ rfl rfl ?_ ?_ ?_
          · exact hs1.far (by simp) _
          · exact hs2.set_ 0 _
          · rw [hd]
            exact ⟨rfl, hsB.setCell (by simp; omega) _⟩
  · have he1 : (e != 0) = true := by simpa using he
    rw [if_pos (.inl he)] at hd
    go_upto_region 8 with (go_at_call 107; refine Calls.mono (rerr_any b body a e _ hR5) ?_; rintro x w6 ⟨rfl, rfl⟩)
    have hs1 : Blk (w6.setRow (w.heap.size + 1) (sumC 0 0)) (w.heap.size + 1) 93 (sumC 0 0) := setRow_heap w6 _ (sumC 0 0) (sumC 0 0) 93 (0, 0) q1
    have hs2 : Blk (w6.setRow (w.heap.size + 1) (sumC 0 0)) (w.heap.size + 1 + 1) 56 #[.int .i64 0] := (setRow_other _ _ _ _ (by omega)).trans q2
    have hsB : Below w.heap.size w (w6.setRow (w.heap.size + 1) (sumC 0 0)) := kB5.trans ⟨rfl, rfl, rfl, by simp [World.setRow], fun k hk => setRow_other _ _ k _ (by omega)⟩
    have c2 := hs2.cell 0
    have f2 := hs2.free 0
    simp only [List.getElem?_toArray, List.getElem?_cons_zero] at c2
    go_wp2_with (first
      | (refine wpList_load_row rfl 93 (.tmp 6) rfl g6 rfl 93 (sumC m k) (0, 0) _ r0 Tryz.underlying93 rfl (by kernel_rfl) ?_)
      | (refine wpList_store_row rfl 93 (.tmp 2) (.tmp 39) rfl (w.heap.size + 1) (sumC 0 0) rfl rfl 93 (sumC 0 0) q1 (by kernel_rfl) rfl (by simp [Value.oneCell']) ?_))
    refine decode_idle _ _ (w.heap.size + 1) (w.heap.size + 1 + 1) 0 0 28 _ rfl rfl ?_ ?_ ?_
    · exact hs1.far (by simp) _
    · exact hs2.set_ 0 _
    · rw [hd]
      exact ⟨rfl, hsB.setCell (by simp; omega) _⟩
end Go.Proofs.YtiikagabdiphkaaGreat
