/- state.Bytes. Conditions: the head's numbers are of their kinds, the body lies in memory. -/
import Derived.Test.YtiikagabdiphkaaGreatOctD
namespace Go.Proofs.YtiikagabdiphkaaGreat
open Go.RowKit Go.Lo

abbrev stateVal (h : OHead) (bv : Value) : Value := .agg #[.int .u16 h.age, .int .u8 h.opts, .int .u8 h.type, .int .u32 h.id, .int .u32 h.adv, .int .i32 h.seq, .int .u16 h.sum, .int .u16 h.len, bv]
theorem headB_len (h : OHead) : (headB h).length = 20 := by simp [headB, beN_len]

set_option maxRecDepth 100000 in
set_option maxHeartbeats 1000000 in
theorem bytes_any (h : OHead) (ok : HeadOk h) (B : Nat) (bv : Value) (body : List Int) (w : World) (hb : Sl w B 1 bv body.length (body.map u8c)) (hB : B ≤ w.heap.size) (hn : body.length ≤ 1099511627776) :
    Calls Tryz.prog 156 #[stateVal h bv] w fun x w' => ∃ v, x = .returned v ∧ w'.ownsRow w.heap.size 5 1 v (headB h ++ body).length ((headB h ++ body).map u8c) ∧ Below w.heap.size w w' := by
  have hb0 := hb
  obtain ⟨-, A, c, rfl, -⟩ := hb
  have z0 : ((w.alloc (.cells #[.int .u16 h.age, .int .u8 h.opts, .int .u8 h.type, .int .u32 h.id, .int .u32 h.adv, .int .i32 h.seq, .int .u16 h.sum, .int .u16 h.len, .slice A body.length c] 54)) : World).heap.size = w.heap.size + 1 := by simp
  have z1 : (((w.alloc (.cells #[.int .u16 h.age, .int .u8 h.opts, .int .u8 h.type, .int .u32 h.id, .int .u32 h.adv, .int .i32 h.seq, .int .u16 h.sum, .int .u16 h.len, .slice A body.length c] 54)).alloc (.cells #[.slice none 0 0, .int .i64 (20 + (body.length : Int)), .int .i64 0, .bool true] 227)) : World).heap.size = w.heap.size + 1 + 1 := by simp
  have z2 : ((((w.alloc (.cells #[.int .u16 h.age, .int .u8 h.opts, .int .u8 h.type, .int .u32 h.id, .int .u32 h.adv, .int .i32 h.seq, .int .u16 h.sum, .int .u16 h.len, .slice A body.length c] 54)).alloc (.cells #[.slice none 0 0, .int .i64 (20 + (body.length : Int)), .int .i64 0, .bool true] 227)).alloc (.cells #[.pointer (some ⟨w.heap.size + 1, 0, none⟩)] 191)) : World).heap.size = w.heap.size + 1 + 1 + 1 := by simp
  have kB : Below w.heap.size w (((w.alloc (.cells #[.int .u16 h.age, .int .u8 h.opts, .int .u8 h.type, .int .u32 h.id, .int .u32 h.adv, .int .i32 h.seq, .int .u16 h.sum, .int .u16 h.len, .slice A body.length c] 54)).alloc (.cells #[.slice none 0 0, .int .i64 (20 + (body.length : Int)), .int .i64 0, .bool true] 227)).alloc (.cells #[.pointer (some ⟨w.heap.size + 1, 0, none⟩)] 191)) := (((Below.refl _ _).alloc (Nat.le_refl _) _).alloc (by simp) _).alloc (by simp; omega) _
  have k0 : Blk (((w.alloc (.cells #[.int .u16 h.age, .int .u8 h.opts, .int .u8 h.type, .int .u32 h.id, .int .u32 h.adv, .int .i32 h.seq, .int .u16 h.sum, .int .u16 h.len, .slice A body.length c] 54)).alloc (.cells #[.slice none 0 0, .int .i64 (20 + (body.length : Int)), .int .i64 0, .bool true] 227)).alloc (.cells #[.pointer (some ⟨w.heap.size + 1, 0, none⟩)] 191)) w.heap.size 54 #[.int .u16 h.age, .int .u8 h.opts, .int .u8 h.type, .int .u32 h.id, .int .u32 h.adv, .int .i32 h.seq, .int .u16 h.sum, .int .u16 h.len, .slice A body.length c] := ((Blk.new _ _ _).alloc _).alloc _
  have k1 : Blk (((w.alloc (.cells #[.int .u16 h.age, .int .u8 h.opts, .int .u8 h.type, .int .u32 h.id, .int .u32 h.adv, .int .i32 h.seq, .int .u16 h.sum, .int .u16 h.len, .slice A body.length c] 54)).alloc (.cells #[.slice none 0 0, .int .i64 (20 + (body.length : Int)), .int .i64 0, .bool true] 227)).alloc (.cells #[.pointer (some ⟨w.heap.size + 1, 0, none⟩)] 191)) (w.heap.size + 1) 227 #[.slice none 0 0, .int .i64 (20 + (body.length : Int)), .int .i64 0, .bool true] := Blk.alloc (heap_alloc2_new w _ _) _
  have k2 : Blk (((w.alloc (.cells #[.int .u16 h.age, .int .u8 h.opts, .int .u8 h.type, .int .u32 h.id, .int .u32 h.adv, .int .i32 h.seq, .int .u16 h.sum, .int .u16 h.len, .slice A body.length c] 54)).alloc (.cells #[.slice none 0 0, .int .i64 (20 + (body.length : Int)), .int .i64 0, .bool true] 227)).alloc (.cells #[.pointer (some ⟨w.heap.size + 1, 0, none⟩)] 191)) (w.heap.size + 1 + 1) 191 #[.pointer (some ⟨w.heap.size + 1, 0, none⟩)] := Blk.new_ _ (by simp)
  have hb2 := hb0.below (kB.mono hB)
  have wl : wrap64 (20 + (body.length : Int)) = 20 + (body.length : Int) := by unfold wrap64; omega
  go_enter Tryz.func156, Tryz.ntmps156
  go_upto_region 2 with (go_at_call 110; refine Calls.mono (write_any _ (by omega) _) ?_; rintro x w' ⟨rfl, rfl⟩)
  generalize (((w.alloc (.cells #[.int .u16 h.age, .int .u8 h.opts, .int .u8 h.type, .int .u32 h.id, .int .u32 h.adv, .int .i32 h.seq, .int .u16 h.sum, .int .u16 h.len, .slice A body.length c] 54)).alloc (.cells #[.slice none 0 0, .int .i64 (20 + (body.length : Int)), .int .i64 0, .bool true] 227)).alloc (.cells #[.pointer (some ⟨w.heap.size + 1, 0, none⟩)] 191)) = w2 at kB k0 k1 k2 hb2 z2 ⊢
  obtain ⟨K, hK⟩ : ∃ K : Nat → Prop, K = fun k => k < w.heap.size + 3 ∧ k ≠ w.heap.size + 1 := ⟨_, rfl⟩
  have kl : ∀ k, K k → k < w2.heap.size := fun k hk => by rw [hK] at hk; have := hk.1; omega
  have kb : ∀ k, k < w.heap.size → K k := fun k hk => by rw [hK]; exact ⟨by omega, by omega⟩
  have ks : K w.heap.size := by rw [hK]; exact ⟨by omega, by omega⟩
  have kp : K (w.heap.size + 1 + 1) := by rw [hK]; exact ⟨by omega, by omega⟩
  have kw : Wr K w2 (w.heap.size + 1) (20 + (body.length : Int)) [] 0 := ⟨by rw [hK]; exact fun h => h.2 rfl, _, k1, World.ownsRow_nil _ _ _ _, by simp [Value.ownBlock]⟩
  have CH := Lib.hid (penHead_any K (w.heap.size + 1) (20 + (body.length : Int)) [] h ok w2 kw kl (by omega) (by simp; omega))
  have hz2 := Lib.hid z2
  clear z0 z1 z2 k1 kw hK wl
  have x0 := k0.cell 0
  have x1 := k0.cell 1
  have x2 := k0.cell 2
  have x3 := k0.cell 3
  have x4 := k0.cell 4
  have x5 := k0.cell 5
  have x6 := k0.cell 6
  have x7 := k0.cell 7
  have y0 := k2.cell 0
  simp only [List.getElem?_toArray, List.getElem?_cons_zero, List.getElem?_cons_succ] at x0 x1 x2 x3 x4 x5 x6 x7 y0
  go_upto_region 3 with (go_at_call 191; refine Calls.mono CH.out ?_; rintro x w3 ⟨rfl, k3, kw3⟩)
  rw [List.nil_append] at kw3
  clear CH x0 x1 x2 x3 x4 x5 x6 x7 y0
  have j0 := k3.blk ks k0
  have j2 := k3.blk kp k2
  have hb3 := k3.sl (fun k hk => kb k (by omega)) hb2
  have x8 := j0.cell 8
  have y0 := j2.cell 0
  simp only [List.getElem?_toArray, List.getElem?_cons_zero, List.getElem?_cons_succ] at x8 y0
  have hk3 : ∀ k, K k → k < w3.heap.size := fun k hk => Nat.lt_of_lt_of_le (kl k hk) k3.size
  have CP := Lib.hid (put_room K (w.heap.size + 1) (20 + (body.length : Int)) (headB h) B _ body w3 kw3 hk3 (by omega) hb3 (by rw [headB_len]; omega))
  clear k0 k2 hb2 hb3 kw3 j0 j2
  have hB3 : Below w.heap.size w w3 := kB.trans (k3.below kb)
  go_wp2_with (first
    | (go_at_call 192; refine Calls.mono CP.out ?_; rintro x w4 ⟨rfl, k4, kw4⟩; have CD := done_any K (w.heap.size + 1) (20 + (body.length : Int)) (headB h ++ body) 0 w4 kw4 (by rw [List.length_append, headB_len]; omega); rw [show doneBs 0 (headB h ++ body) = headB h ++ body from rfl] at CD; replace CD := Lib.hid CD)
    | (go_at_call 111; refine Calls.mono CD.out ?_; rintro x w5 ⟨v, rfl, ho5, hB5⟩)
    | fail)
  go_ret
  have hB4 : Below w.heap.size w w4 := hB3.trans (k4.below kb)
  exact ⟨v, rfl, own_less ho5 hB4.size, hB4.trans (hB5.mono hB4.size)⟩
end Go.Proofs.YtiikagabdiphkaaGreat
