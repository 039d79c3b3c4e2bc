/- The decoding of a state at the types 5 and 7. -/
import Derived.Test.YtiikagabdiphkaaGreatMdm
import Derived.Test.YtiikagabdiphkaaGreatMe
namespace Go.Proofs.YtiikagabdiphkaaGreat
open Go.RowKit Go.Lo

set_option maxRecDepth 100000 in
set_option maxHeartbeats 1000000 in
theorem may5_ok (m k : Int) (t2 : Bool) (fw tg : Int) (hb : bitsB m = true) (hk : ¬ 16777215 < k) (w : World) : Calls Tryz.prog 109 #[.int .u8 5, .agg (outC m k t2 fw tg)] w fun e w' => e = .returned (.tuple #[]) ∧ Below w.heap.size w w' := by
  have k0 : Blk ((w.alloc (.cells (outC m k t2 fw tg) 93)).alloc (.cells (outC m k t2 fw tg) 93)) w.heap.size 93 (outC m k t2 fw tg) := (Blk.new _ _ _).alloc _
  have k1 : Blk ((w.alloc (.cells (outC m k t2 fw tg) 93)).alloc (.cells (outC m k t2 fw tg) 93)) (w.heap.size + 1) 93 (outC m k t2 fw tg) := heap_alloc2_new w _ _
  have kB : Below w.heap.size w ((w.alloc (.cells (outC m k t2 fw tg) 93)).alloc (.cells (outC m k t2 fw tg) 93)) := ((Below.refl _ _).alloc (Nat.le_refl _) _).alloc (by simp) _
  go_enter Tryz.func109, Tryz.ntmps109
  go_upto_region 2 with fail
  generalize (w.alloc (.cells (outC m k t2 fw tg) 93)).alloc (.cells (outC m k t2 fw tg) 93) = w1 at k0 k1 kB ⊢
  have x1 := k0.cell 1
  have x2 := k0.cell 2
  have x3 := k0.cell 3
  have x4 := k0.cell 4
  have x8 := k0.cell 8
  have y0 := k1.cell 0
  have y1 := k1.cell 1
  have y2 := k1.cell 2
  have y3 := k1.cell 3
  have y4 := k1.cell 4
  have y5 := k1.cell 5
  have y6 := k1.cell 6
  have y7 := k1.cell 7
  have y8 := k1.cell 8
  have f2 := k1.free 2
  have f4 := k1.free 4
  have f5 := k1.free 5
  have f6 := k1.free 6
  have f7 := k1.free 7
  simp only [List.getElem?_toArray, List.getElem?_cons_zero, List.getElem?_cons_succ] at x1 x2 x3 x4 x8 y0 y1 y2 y3 y4 y5 y6 y7 y8
  clear k0 k1
  go_wp2_with (go_at_call 113; refine Calls.mono (bits_any m _) ?_; rintro x w2 ⟨rfl, rfl⟩)
  go_loopg [116] 1 (fun m i wr => m = 1 ∧ i = .int .i64 0 ∧ Below w.heap.size w wr)
  case atStart => exact ⟨rfl, rfl, (((((kB.setCell (p := ⟨w.heap.size + 1, 2, none⟩) (Nat.le_succ _) _).setCell (p := ⟨w.heap.size + 1, 4, none⟩) (Nat.le_succ _) _).setCell (p := ⟨w.heap.size + 1, 5, none⟩) (Nat.le_succ _) _).setCell (p := ⟨w.heap.size + 1, 6, none⟩) (Nat.le_succ _) _).setCell (p := ⟨w.heap.size + 1, 7, none⟩) (Nat.le_succ _) _)⟩
  case round =>
    obtain ⟨hm, rfl, hB⟩ := hrel
    go_wp2
    go_end0
    exact ⟨rfl, hB⟩

theorem form5 (w : World) : Calls Tryz.prog 105 #[.int .u8 5] w fun x w' => x = .returned (.agg #[.func (.func 185) #[] #[], .func (.func 186) #[] #[]]) ∧ Below w.heap.size w w' := formOf57 5 (.inl rfl) w

/-- how Decode leaves when it returns -/
theorem decode_idleO (tmps : Array Value) (W : World) (g1 g2 : Nat) (m k : Int) (t2 : Bool) (fw tg e : Int) (R : Ending → World → Prop) (h2 : tmps.getD 2 undef = .pointer (some ⟨g1, 0, none⟩)) (h3 : tmps.getD 3 undef = .pointer (some ⟨g2, 0, none⟩))
    (b1 : Blk W g1 93 (outC m k t2 fw tg)) (b2 : Blk W g2 56 #[.int .i64 e]) (hR : R (.returned (.tuple #[.agg (outC m k t2 fw tg), .int .i64 e])) W) :
    Leaves Tryz.prog Tryz.f62 tmps R [{ target := .fn (.func 104) #[], args := #[.pointer (some ⟨g2, 0, none⟩)] }] .returning W := by
  have hc := b2.cell 0
  simp only [List.getElem?_toArray, List.getElem?_cons_zero] at hc
  have h2' : tmps[2]?.getD undef = .pointer (some ⟨g1, 0, none⟩) := by simpa using h2
  have h3' : tmps[3]?.getD undef = .pointer (some ⟨g2, 0, none⟩) := by simpa using h3
  have hl := run_loadVar_row (P := Tryz.prog) W g1 93 93 (outC m k t2 fw tg) (0, 0) _ b1 Tryz.underlying93 rfl (by kernel_rfl)
  refine leaves_cons (f := 104) (args := #[.pointer (some ⟨g2, 0, none⟩)]) (by simp) (by simp [go_sem]) ?_
  refine (caught_idle _ _).mono ?_
  rintro _ u' w'' ⟨rfl, rfl, rfl⟩
  refine ⟨_, ?_, hR⟩
  have hl2 : (loadVar 56 ⟨g2, 0, none⟩).run Tryz.prog w'' = .ok (.int .i64 e) w'' := by simp [go_sem, hc]
  simp [results, Tryz.f62, h2', h3', asAddr, hl, hl2]

set_option maxRecDepth 100000 in
set_option maxHeartbeats 4000000 in
theorem decode5_ok (h : OHead) (m k fw tg : Int) (hm0 : 0 ≤ m ∧ m < 4294967296) (hk0 : 0 ≤ k ∧ k < 16777216) (hf0 : 0 ≤ fw ∧ fw < 4294967296) (ht0 : 0 ≤ tg ∧ tg < 4294967296) (hbits : bitsB m = true) (B : Nat) (bv : Value) (body : List Int) (hbody : body = beN m 4 ++ ([0] ++ (beN k 3 ++ (beN fw 4 ++ beN tg 4))))
    (e1 : numB (body.take 4) = m) (e2 : numB ((body.drop 4).take 1) = 0) (e3 : numB ((body.drop 5).take 3) = k) (e4 : numB ((body.drop 8).take 4) = fw) (e5 : numB ((body.drop 12).take 4) = tg)
    (w : World) (hb : Sl w B 1 bv body.length (body.map u8c)) (hB : B ≤ w.heap.size) (hl8 : ∀ x ∈ body, 0 ≤ x ∧ x < 256)
    (hty : h.type = 5) (hlen : h.len = 20 + (body.length : Int)) :
    Calls Tryz.prog 62 #[stateVal h bv] w fun x w' => x = .returned (.tuple #[.agg (outC m k false fw tg), .int .i64 0]) ∧ Below w.heap.size w w' := by
  have hn16 : body.length = 16 := by rw [hbody]; rfl
  have hn : body.length ≤ 1099511627776 := by omega
  replace hbody := Lib.hid hbody
  replace hn16 := Lib.hid hn16
  replace e1 := Lib.hid e1
  replace e2 := Lib.hid e2
  replace e3 := Lib.hid e3
  replace e4 := Lib.hid e4
  replace e5 := Lib.hid e5
  obtain ⟨age, opts, type, id, adv, seq, sum, len⟩ := h
  simp only at hty hlen
  subst hty hlen
  have hb0 := hb
  obtain ⟨-, A, c, rfl, -⟩ := hb
  dsimp only [stateVal]
  have wl : wrap64 (20 + (body.length : Int)) = 20 + (body.length : Int) := by unfold wrap64; omega
  have q1 : Blk (((w.alloc (.cells #[.int .u16 age, .int .u8 opts, .int .u8 5, .int .u32 id, .int .u32 adv, .int .i32 seq, .int .u16 sum, .int .u16 (20 + (body.length : Int)), .slice A body.length c] 54)).alloc (.cells (sumC 0 0) 93)).alloc (.cells #[.int .i64 0] 56)) (w.heap.size + 1) 93 (sumC 0 0) := (Blk.new_ _ (by simp)).alloc _
  have q2 : Blk (((w.alloc (.cells #[.int .u16 age, .int .u8 opts, .int .u8 5, .int .u32 id, .int .u32 adv, .int .i32 seq, .int .u16 sum, .int .u16 (20 + (body.length : Int)), .slice A body.length c] 54)).alloc (.cells (sumC 0 0) 93)).alloc (.cells #[.int .i64 0] 56)) (w.heap.size + 1 + 1) 56 #[.int .i64 0] := Blk.new_ _ (by simp)
  have q0 : Blk (((w.alloc (.cells #[.int .u16 age, .int .u8 opts, .int .u8 5, .int .u32 id, .int .u32 adv, .int .i32 seq, .int .u16 sum, .int .u16 (20 + (body.length : Int)), .slice A body.length c] 54)).alloc (.cells (sumC 0 0) 93)).alloc (.cells #[.int .i64 0] 56)) w.heap.size 54 #[.int .u16 age, .int .u8 opts, .int .u8 5, .int .u32 id, .int .u32 adv, .int .i32 seq, .int .u16 sum, .int .u16 (20 + (body.length : Int)), .slice A body.length c] := ((Blk.new _ _ _).alloc _).alloc _
  have qB : Below w.heap.size w (((w.alloc (.cells #[.int .u16 age, .int .u8 opts, .int .u8 5, .int .u32 id, .int .u32 adv, .int .i32 seq, .int .u16 sum, .int .u16 (20 + (body.length : Int)), .slice A body.length c] 54)).alloc (.cells (sumC 0 0) 93)).alloc (.cells #[.int .i64 0] 56)) := ((Below.refl _ _).alloc (Nat.le_refl _) _ |>.alloc (by simp) _).alloc (by simp; omega) _
  go_enter_defers Tryz.func62, Tryz.ntmps62
  go_upto_region 4 with fail
  generalize ((w.alloc (.cells #[.int .u16 age, .int .u8 opts, .int .u8 5, .int .u32 id, .int .u32 adv, .int .i32 seq, .int .u16 sum, .int .u16 (20 + (body.length : Int)), .slice A body.length c] 54)).alloc (.cells (sumC 0 0) 93)).alloc (.cells #[.int .i64 0] 56) = w0 at q0 q1 q2 qB ⊢
  have x2 := q0.cell 2
  have x8 := q0.cell 8
  simp only [List.getElem?_toArray, List.getElem?_cons_zero, List.getElem?_cons_succ] at x2 x8
  have kl := q2.lt
  go_upto_region 5 with (go_at_call 105; refine Calls.mono (form5 _) ?_; rintro x w1 ⟨rfl, k1⟩)
  have p0 : Blk (w1.alloc (.cells #[.func (.func 185) #[] #[], .func (.func 186) #[] #[]] 181)) w1.heap.size 181 #[.func (.func 185) #[] #[], .func (.func 186) #[] #[]] := Blk.new _ _ _
  have k2 : Below w0.heap.size w0 (w1.alloc (.cells #[.func (.func 185) #[] #[], .func (.func 186) #[] #[]] 181)) := k1.alloc k1.size _
  have kz1 := k1.size
  generalize w1.alloc (.cells #[.func (.func 185) #[] #[], .func (.func 186) #[] #[]] 181) = w2 at p0 k2 ⊢
  generalize w1.heap.size = g at p0 kz1 ⊢
  clear x2 x8 k1
  have q0' := q0.below k2 q0.lt
  have q1' := q1.below k2 q1.lt
  have q2' := q2.below k2 q2.lt
  have kB2 := qB.trans (k2.mono qB.size)
  have hb2 := hb0.below (kB2.mono hB)
  clear q0 q1 q2 qB k2
  have hz0 := q2'.lt
  have x8 := q0'.cell 8
  have y0 := p0.cell 0
  have y1 := p0.cell 1
  simp only [List.getElem?_toArray, List.getElem?_cons_zero, List.getElem?_cons_succ] at x8 y0 y1
  have CR := Lib.hid (rread_any B _ body w2 hb2 (Nat.le_trans hB kB2.size) (Nat.le_trans hn (by decide)))
  have CS := Lib.hid (fun b W (hR : Rd W b body 0 0) => readOuter_16 b body W hR hn16.out hl8)
  rw [e1.out, e2.out, e3.out, e4.out, e5.out, show ((0 : Int) == 128) = false from rfl] at CS
  clear e1 e2 e3 e4 e5
  go_upto_region 6 with (go_at_call 106; refine Calls.mono CR.out ?_; rintro x w3 ⟨b, rfl, hb3, hR3, k3⟩)
  have y1' : w3.cell? ⟨g, 1, none⟩ = some (.func (.func 186) #[] #[]) := ((p0.below k3 p0.lt).cell 1)
  go_upto_region 7 with (go_at_call 186; refine Calls.mono (CS.out b _ hR3) ?_; rintro x w4 ⟨rfl, hR4, k4⟩)
  have kb3 : b < w3.heap.size := hR3.lt
  have kz4 := k4.size
  have r0 : Blk (w4.alloc (.cells (outC m k false fw tg) 93)) w4.heap.size 93 (outC m k false fw tg) := Blk.new _ _ _
  have k5 : Below w2.heap.size w2 (w4.alloc (.cells (outC m k false fw tg) 93)) := (k3.trans (k4.mono hb3)).alloc (Nat.le_trans k3.size kz4) _
  have hR5 : Rd (w4.alloc (.cells (outC m k false fw tg) 93)) b body 16 0 := hR4.below ((Below.refl _ _).alloc (Nat.le_refl _) _) hR4.lt
  have hz5 : w4.heap.size < (w4.alloc (.cells (outC m k false fw tg) 93)).heap.size := by simp
  generalize (w4.alloc (.cells (outC m k false fw tg) 93)) = w5 at r0 k5 hR5 hz5 ⊢
  obtain ⟨g6, hg6⟩ : ∃ g6, g6 = w4.heap.size := ⟨_, rfl⟩
  rw [← hg6] at r0 hz5 ⊢
  have hl6 : w2.heap.size ≤ g6 := by rw [hg6]; exact Nat.le_trans k3.size kz4
  clear hg6 CS CR y1' hR4 hR3 k3 k4 kz4 kb3 y1 x8
  have q1 := q1'.below k5 q1'.lt
  have q2 := q2'.below k5 q2'.lt
  have p5 := p0.below k5 p0.lt
  have kB5 := kB2.trans (k5.mono kB2.size)
  have hb5 := hb0.below (kB5.mono hB)
  have q0 := q0'.below k5 q0'.lt
  have x8 := q0.cell 8
  have x2 := q0.cell 2
  have y0' := p5.cell 0
  simp only [List.getElem?_toArray, List.getElem?_cons_zero, List.getElem?_cons_succ] at x8 x2 y0'
  have n1 := p0.lt
  clear q0' q1' q2' p0 hb2 k5 y0 kB2
  have he1 : decide (0 < leftR body 16 0) = false := decide_eq_false (by unfold leftR; rw [if_pos rfl]; have := hn16.out; omega)
  go_upto_region 9 with (first
    | (go_at_call 107; refine Calls.mono (rerr_any b body 16 0 _ hR5) ?_; rintro x w6 ⟨rfl, rfl⟩)
    | (go_at_call 108; refine Calls.mono (rleft_any b body 16 0 _ hR5 (by omega)) ?_; rintro x w7 ⟨rfl, k7⟩))
  have q0 := q0.below k7 q0.lt
  have q1 := q1.below k7 q1.lt
  have q2 := q2.below k7 q2.lt
  have p5 := p5.below k7 p5.lt
  have r0 := r0.below k7 r0.lt
  have hb5 := hb5.below (k7.mono (Nat.le_trans hB kB5.size))
  have kB5 := kB5.trans (k7.mono kB5.size)
  clear x8 x2 y0' k7 hR5
  have x2 := q0.cell 2
  simp only [List.getElem?_toArray, List.getElem?_cons_zero, List.getElem?_cons_succ] at x2
  go_upto_region 11 with (first
    | (refine wpList_load_row rfl 93 (.tmp 6) rfl g6 rfl 93 (outC m k false fw tg) (0, 0) _ r0 Tryz.underlying93 rfl (by kernel_rfl) ?_)
    | (go_at_call 109; refine Calls.mono (may5_ok m k false fw tg hbits (by omega) _) ?_; rintro x w8 ⟨rfl, k8⟩)
    | (go_at_call 110; refine Calls.mono (write_any _ (by omega) _) ?_; rintro x w' ⟨rfl, rfl⟩))
  have hz8 := k8.size
  have s1 := r0.lt
  have s2 := p5.lt
  have s3 := q2.lt
  have v0 : Blk ((w8.alloc (.cells #[.slice none 0 0, .int .i64 65535, .int .i64 0, .bool true] 227)).alloc (.cells #[.pointer (some ⟨w8.heap.size, 0, none⟩)] 191)) w8.heap.size 227 #[.slice none 0 0, .int .i64 65535, .int .i64 0, .bool true] := (Blk.new _ _ _).alloc _
  have v1 : Blk ((w8.alloc (.cells #[.slice none 0 0, .int .i64 65535, .int .i64 0, .bool true] 227)).alloc (.cells #[.pointer (some ⟨w8.heap.size, 0, none⟩)] 191)) (w8.heap.size + 1) 191 #[.pointer (some ⟨w8.heap.size, 0, none⟩)] := Blk.new_ _ (by simp)
  have k9 : Below w7.heap.size w7 ((w8.alloc (.cells #[.slice none 0 0, .int .i64 65535, .int .i64 0, .bool true] 227)).alloc (.cells #[.pointer (some ⟨w8.heap.size, 0, none⟩)] 191)) := (k8.alloc hz8 _).alloc (by simp; omega) _
  have kz9 : ((w8.alloc (.cells #[.slice none 0 0, .int .i64 65535, .int .i64 0, .bool true] 227)).alloc (.cells #[.pointer (some ⟨w8.heap.size, 0, none⟩)] 191)).heap.size = w8.heap.size + 1 + 1 := by simp
  generalize ((w8.alloc (.cells #[.slice none 0 0, .int .i64 65535, .int .i64 0, .bool true] 227)).alloc (.cells #[.pointer (some ⟨w8.heap.size, 0, none⟩)] 191)) = w9 at v0 v1 k9 kz9 ⊢
  have q1 := q1.below k9 q1.lt
  have q2 := q2.below k9 q2.lt
  have p5 := p5.below k9 p5.lt
  have r0 := r0.below k9 r0.lt
  have hb5 := hb5.below (k9.mono (Nat.le_trans hB kB5.size))
  have kB5 := kB5.trans (k9.mono kB5.size)
  obtain ⟨g8, hg8⟩ : ∃ g8, g8 = w8.heap.size := ⟨_, rfl⟩
  rw [← hg8] at v0 v1 kz9 hz8 ⊢
  clear hg8
  have ng : ∀ {x : Nat} {tt : TypeId} {cs : Array Value}, Blk w7 x tt cs → x ≠ g8 ∧ x ≠ g8 + 1 := fun hx => by have := hx.lt; omega
  obtain ⟨K, hK⟩ : ∃ K : Nat → Prop, K = fun j => j < g8 + 2 ∧ j ≠ g8 := ⟨_, rfl⟩
  have kl9 : ∀ j, K j → j < w9.heap.size := fun j hj => by rw [hK] at hj; have := hj.1; omega
  have kb9 : ∀ j, j < g8 → K j := fun j hj => by rw [hK]; exact ⟨by omega, by omega⟩
  have kv9 : K (g8 + 1) := by rw [hK]; exact ⟨by omega, by omega⟩
  have hW9 : Wr K w9 g8 65535 [] 0 := ⟨by rw [hK]; exact fun h => h.2 rfl, _, v0, World.ownsRow_nil _ _ _ _, by simp [Value.ownBlock]⟩
  have CW := Lib.hid (writeOuter_any K g8 65535 [] m k fw tg hm0 hk0 hf0 ht0 w9 hW9 kl9 (by omega) (by simp))
  have y0 := p5.cell 0
  have z0 := v1.cell 0
  simp only [List.getElem?_toArray, List.getElem?_cons_zero] at y0 z0
  have n7 : g6 < g8 := by omega
  have n8 : g < g8 := by omega
  have n9 : w.heap.size + 1 + 1 < g8 := by omega
  clear x2 hW9 hK ng
  go_upto_region 12 with (first
    | (refine wpList_load_row rfl 93 (.tmp 6) rfl g6 rfl 93 (outC m k false fw tg) (0, 0) _ r0 Tryz.underlying93 rfl (by kernel_rfl) ?_)
    | (go_at_call 185; refine Calls.mono CW.out ?_; rintro x w10 ⟨rfl, k10, hW10⟩))
  rw [List.nil_append] at hW10
  clear CW y0 z0
  have q1 := k10.blk (kb9 _ (by omega)) q1
  have q2 := k10.blk (kb9 _ (by omega)) q2
  have r0 := k10.blk (kb9 _ (by omega)) r0
  have v1 := k10.blk kv9 v1
  have hb5 := k10.sl (fun j hj => kb9 j (by omega)) hb5
  have q0 := k10.blk (kb9 _ (by omega)) (q0.below k9 q0.lt)
  have kB5 := kB5.trans (k10.below (fun j hj => kb9 j (by omega)))
  have CD := Lib.hid (done_any K g8 65535 (beN m 4 ++ ([0] ++ (beN k 3 ++ (beN fw 4 ++ beN tg 4)))) 0 w10 hW10 (by show (16 : Nat) ≤ _; omega))
  rw [show doneBs 0 (beN m 4 ++ ([0] ++ (beN k 3 ++ (beN fw 4 ++ beN tg 4)))) = beN m 4 ++ ([0] ++ (beN k 3 ++ (beN fw 4 ++ beN tg 4))) from rfl] at CD
  have z0 := v1.cell 0
  simp only [List.getElem?_toArray, List.getElem?_cons_zero] at z0
  clear p5
  go_upto_region 13 with (go_at_call 111; refine Calls.mono CD.out ?_; rintro x w11 ⟨v, rfl, ho11, k11⟩)
  clear CD z0
  have q1 := q1.below k11 q1.lt
  have q2 := q2.below k11 q2.lt
  have r0 := r0.below k11 r0.lt
  have q0 := q0.below k11 q0.lt
  have hb5 := hb5.below (k11.mono (Nat.le_trans hB kB5.size))
  have kB5 := kB5.trans (k11.mono kB5.size)
  have x8 := q0.cell 8
  simp only [List.getElem?_toArray, List.getElem?_cons_zero, List.getElem?_cons_succ] at x8
  have CE := Lib.hid (equal8_any _ B v _ (beN m 4 ++ ([0] ++ (beN k 3 ++ (beN fw 4 ++ beN tg 4)))) body w11 (Sl.of_own ho11) hb5 (by show (16 : Nat) ≤ _; omega))
  have heq := hbody.out.symm
  rw [decide_eq_true heq] at CE
  go_upto_region 15 with (go_at_call 112; refine Calls.mono CE.out ?_; rintro x w12 ⟨rfl, k12⟩)
  have q1 := q1.below k12 q1.lt
  have q2 := q2.below k12 q2.lt
  have r0 := r0.below k12 r0.lt
  have kB5 := kB5.trans (k12.mono kB5.size)
  have hs1 : Blk (w12.setRow (w.heap.size + 1) (outC m k false fw tg)) (w.heap.size + 1) 93 (outC m k false fw tg) := setRow_heap w12 _ (sumC 0 0) (outC m k false fw tg) 93 (0, 0) q1
  have hs2 : Blk (w12.setRow (w.heap.size + 1) (outC m k false fw tg)) (w.heap.size + 1 + 1) 56 #[.int .i64 0] := (setRow_other _ _ _ _ (by omega)).trans q2
  have hsB : Below w.heap.size w (w12.setRow (w.heap.size + 1) (outC m k false fw tg)) := kB5.trans ⟨rfl, rfl, rfl, by simp [World.setRow], fun k hk => setRow_other _ _ k _ (by omega)⟩
  have c2 := hs2.cell 0
  have f2 := hs2.free 0
  simp only [List.getElem?_toArray, List.getElem?_cons_zero] at c2
  go_wp2_with (first
    | (refine wpList_load_row rfl 93 (.tmp 6) rfl g6 rfl 93 (outC m k false fw tg) (0, 0) _ r0 Tryz.underlying93 rfl (by kernel_rfl) ?_)
    | (refine wpList_store_row rfl 93 (.tmp 2) (.tmp 64) rfl (w.heap.size + 1) (outC m k false fw tg) rfl rfl 93 (sumC 0 0) q1 (by kernel_rfl) rfl (by simp [Value.oneCell']) ?_))
  refine decode_idleO _ _ (w.heap.size + 1) (w.heap.size + 1 + 1) m k false fw tg 0 _ rfl rfl ?_ ?_ ?_
  · exact hs1.far (by simp) _
  · exact hs2.set_ 0 _
  · exact ⟨rfl, hsB.setCell (by simp; omega) _⟩
end Go.Proofs.YtiikagabdiphkaaGreat
