/- a state's bytes. Conditions: the head's numbers are of their kinds, the body lies in memory. -/
import Derived.Test.YtiikagabdiphkaaGreatOctC
import Derived.StillTailTactics
namespace Go.Proofs.YtiikagabdiphkaaGreat
open Go.RowKit Go.Lo

theorem Wr.alloc {K : Nat → Prop} {w : World} {b : Nat} {most e : Int} {bs : List Int} (h : Wr K w b most bs e) (o : Obj) : Wr K (w.alloc o) b most bs e := by
  obtain ⟨h1, v, h2, h3, h4⟩ := h
  exact ⟨h1, v, h2.alloc _, own_alloc h3 _, h4⟩
theorem Wr.drew {K : Nat → Prop} {w : World} {b : Nat} {most e : Int} {bs : List Int} (h : Wr K w b most bs e) : Wr K w.drew b most bs e := h
theorem Wr.lt {K : Nat → Prop} {w : World} {b : Nat} {most e : Int} {bs : List Int} (h : Wr K w b most bs e) : b < w.heap.size := h.2.elim fun _ h => h.1.lt
/-- a block that is made now stays too -/
theorem Wr.add {K : Nat → Prop} {w : World} {b : Nat} {most e : Int} {bs : List Int} (h : Wr K w b most bs e) (o : Obj) : Wr (fun k => K k ∨ k = w.heap.size) (w.alloc o) b most bs e := by
  obtain ⟨h1, v, h2, h3, h4⟩ := h
  refine ⟨fun h => h.elim h1 fun e => absurd h2.lt (by omega), v, h2.alloc _, own_alloc h3 _, fun g hg => ⟨(h4 g hg).1, fun h => h.elim (h4 g hg).2 fun e => absurd (h3.lt g hg).2 (by omega)⟩⟩
theorem Wr.less {K K' : Nat → Prop} {w : World} {b : Nat} {most e : Int} {bs : List Int} (h : Wr K w b most bs e) (hK : ∀ k, K' k → K k) : Wr K' w b most bs e := by
  obtain ⟨h1, v, h2, h3, h4⟩ := h
  exact ⟨fun h => h1 (hK _ h), v, h2, h3, fun g hg => ⟨(h4 g hg).1, fun h => (h4 g hg).2 (hK _ h)⟩⟩
/-- blocks that stand apart from the writer's stay too -/
theorem Wr.more {K K' : Nat → Prop} {w : World} {b : Nat} {most e : Int} {bs : List Int} (h : Wr K w b most bs e) (hb : ¬ K' b) (hK : ∀ g, b ≠ g → K' g → K g ∨ w.heap.size ≤ g) : Wr K' w b most bs e := by
  obtain ⟨h1, v, h2, h3, h4⟩ := h
  exact ⟨hb, v, h2, h3, fun g hg => ⟨(h4 g hg).1, fun h => (hK g (Ne.symm (h4 g hg).1) h).elim (h4 g hg).2 fun h => absurd (h3.lt g hg).2 (by omega)⟩⟩

theorem putW_room {most : Int} {bs xs : List Int} (h : (bs.length : Int) + xs.length ≤ most) : putW most (bs, 0) xs = (bs ++ xs, 0) := by
  simp only [putW]
  rw [if_neg (by simp), if_neg (by omega)]

theorem put_room (K : Nat → Prop) (b : Nat) (most : Int) (bs : List Int) (B : Nat) (xv : Value) (xs : List Int) (w : World) (h : Wr K w b most bs 0) (hK : ∀ k, K k → k < w.heap.size) (hm : most ≤ 140737488355328) (hx : Sl w B 1 xv xs.length (xs.map u8c)) (hr : (bs.length : Int) + xs.length ≤ most) :
    Calls Tryz.prog 192 #[.pointer (some ⟨b, 0, none⟩), xv] w fun x w' => x = .returned (.pointer (some ⟨b, 0, none⟩)) ∧ Keep K w w' ∧ Wr K w' b most (bs ++ xs) 0 := by
  have C := put_any K b most bs 0 B xv xs w h hK ⟨by omega, hm⟩ hx (by omega)
  rw [putW_room hr] at C
  exact C
theorem num2 (K : Nat → Prop) (b : Nat) (most : Int) (bs : List Int) (v : Int) (hv : 0 ≤ v ∧ v < 65536) (w : World) (h : Wr K w b most bs 0) (hK : ∀ k, K k → k < w.heap.size) (hm : most ≤ 140737488355320) (hr : (bs.length : Int) + 2 ≤ most) :
    Calls Tryz.prog 201 #[.pointer (some ⟨b, 0, none⟩), .int .u32 v, .int .i64 2] w fun x w' => x = .returned (.pointer (some ⟨b, 0, none⟩)) ∧ Keep K w w' ∧ Wr K w' b most (bs ++ beN v 2) 0 := by
  have C := number_any K b most bs 0 v 2 (by omega) (by omega) w h hK ⟨by omega, by omega⟩ (by omega)
  rw [putW_room (by rw [beN_len v 2 (by omega)]; omega)] at C
  exact C
theorem num3 (K : Nat → Prop) (b : Nat) (most : Int) (bs : List Int) (v : Int) (hv : 0 ≤ v ∧ v < 16777216) (w : World) (h : Wr K w b most bs 0) (hK : ∀ k, K k → k < w.heap.size) (hm : most ≤ 140737488355320) (hr : (bs.length : Int) + 3 ≤ most) :
    Calls Tryz.prog 201 #[.pointer (some ⟨b, 0, none⟩), .int .u32 v, .int .i64 3] w fun x w' => x = .returned (.pointer (some ⟨b, 0, none⟩)) ∧ Keep K w w' ∧ Wr K w' b most (bs ++ beN v 3) 0 := by
  have C := number_any K b most bs 0 v 3 (by omega) (by omega) w h hK ⟨by omega, by omega⟩ (by omega)
  rw [putW_room (by rw [beN_len v 3 (by omega)]; omega)] at C
  exact C
theorem num4 (K : Nat → Prop) (b : Nat) (most : Int) (bs : List Int) (v : Int) (hv : 0 ≤ v ∧ v < 4294967296) (w : World) (h : Wr K w b most bs 0) (hK : ∀ k, K k → k < w.heap.size) (hm : most ≤ 140737488355320) (hr : (bs.length : Int) + 4 ≤ most) :
    Calls Tryz.prog 201 #[.pointer (some ⟨b, 0, none⟩), .int .u32 v, .int .i64 4] w fun x w' => x = .returned (.pointer (some ⟨b, 0, none⟩)) ∧ Keep K w w' ∧ Wr K w' b most (bs ++ beN v 4) 0 := by
  have C := number_any K b most bs 0 v 4 (by omega) (by omega) w h hK ⟨by omega, by omega⟩ (by omega)
  rw [putW_room (by rw [beN_len v 4 (by omega)]; omega)] at C
  exact C

theorem num2_beside (K2 : Nat → Prop) (b : Nat) (most : Int) (bs : List Int) (v x0 x1 : Int) (hv : 0 ≤ v ∧ v < 65536) (w1 : World) (h : Wr K2 w1 b most bs 0) (hK : ∀ k, K2 k → k < w1.heap.size) (hm : most ≤ 140737488355320) (hr : (bs.length : Int) + 2 ≤ most) :
    Calls Tryz.prog 201 #[.pointer (some ⟨b, 0, none⟩), .int .u32 v, .int .i64 2] ((w1.alloc (.cells #[.int .u8 x0, .int .u8 x1] 5)).drew) fun x w2 => x = .returned (.pointer (some ⟨b, 0, none⟩)) ∧ Keep K2 w1 w2 ∧ Wr (fun k => K2 k ∨ k = w1.heap.size) w2 b most (bs ++ beN v 2) 0 ∧ Sl w2 (w1.heap.size + 1) 1 (.slice (some ⟨w1.heap.size, 0, none⟩) 2 2) 2 ([x0, x1].map u8c) ∧ w1.heap.size < w2.heap.size := by
  have hs : ((w1.alloc (.cells #[.int .u8 x0, .int .u8 x1] 5)).drew).heap.size = w1.heap.size + 1 := by simp [World.drew]
  have C := num2 (fun k => K2 k ∨ k = w1.heap.size) b most bs v hv ((w1.alloc (.cells #[.int .u8 x0, .int .u8 x1] 5)).drew) (Wr.drew (h.add (.cells #[.int .u8 x0, .int .u8 x1] 5))) (fun k hk => by
    rw [hs]
    rcases hk with hk | hk
    · have := hK k hk; omega
    · omega) hm hr
  refine Calls.mono C ?_
  rintro x w2 ⟨rfl, k1, k2⟩
  refine ⟨rfl, ((Keep.refl _ _).alloc hK _).drew.trans (k1.mono fun k hk => .inl hk), k2, ?_, ?_⟩
  · exact sl_at (k1.blk (.inr rfl) (Blk.drew_ (Blk.new w1 5 #[.int .u8 x0, .int .u8 x1]))) 0 2 _ rfl (by simp [maxLen]) (fun j u hu => by rw [Nat.zero_add, List.getElem?_toArray]; exact hu)
  · have := k1.size
    rw [hs] at this
    omega

structure OHead where
  age : Int
  opts : Int
  type : Int
  id : Int
  adv : Int
  seq : Int
  sum : Int
  len : Int
def headCells (h : OHead) : List Value := [.int .u16 h.age, .int .u8 h.opts, .int .u8 h.type, .int .u32 h.id, .int .u32 h.adv, .int .i32 h.seq, .int .u16 h.sum, .int .u16 h.len]
/-- each number is of its kind -/
structure HeadOk (h : OHead) : Prop where
  age : 0 ≤ h.age ∧ h.age < 65536
  opts : 0 ≤ h.opts ∧ h.opts < 256
  type : 0 ≤ h.type ∧ h.type < 256
  id : 0 ≤ h.id ∧ h.id < 4294967296
  adv : 0 ≤ h.adv ∧ h.adv < 4294967296
  seq : -2147483648 ≤ h.seq ∧ h.seq < 2147483648
  sum : 0 ≤ h.sum ∧ h.sum < 65536
  len : 0 ≤ h.len ∧ h.len < 65536
def headB (h : OHead) : List Int := beN h.age 2 ++ ([h.opts, h.type] ++ (beN h.id 4 ++ (beN h.adv 4 ++ (beN (h.seq % 4294967296) 4 ++ (beN h.sum 2 ++ beN h.len 2)))))

set_option maxRecDepth 100000 in
set_option maxHeartbeats 4000000 in
theorem penHead_any (K : Nat → Prop) (b : Nat) (most : Int) (bs : List Int) (h : OHead) (ok : HeadOk h) (w : World) (hW : Wr K w b most bs 0) (hK : ∀ k, K k → k < w.heap.size) (hm : most ≤ 140737488355320) (hr : (bs.length : Int) + 20 ≤ most) :
    Calls Tryz.prog 191 #[.agg #[.pointer (some ⟨b, 0, none⟩)], .agg (headCells h).toArray] w fun x w' => x = .returned (.tuple #[]) ∧ Keep K w w' ∧ Wr K w' b most (bs ++ headB h) 0 := by
  obtain ⟨age, opts, type, id, adv, seq, sum, len⟩ := h
  obtain ⟨o1, o2, o3, o4, o5, o6, o7, o8⟩ := ok
  simp only at o1 o2 o3 o4 o5 o6 o7 o8
  dsimp only [headCells]
  have k0 : Blk ((w.alloc (.cells #[.pointer (some ⟨b, 0, none⟩)] 191)).alloc (.cells #[.int .u16 age, .int .u8 opts, .int .u8 type, .int .u32 id, .int .u32 adv, .int .i32 seq, .int .u16 sum, .int .u16 len] 51)) w.heap.size 191 #[.pointer (some ⟨b, 0, none⟩)] := (Blk.new _ _ _).alloc _
  have k1 : Blk ((w.alloc (.cells #[.pointer (some ⟨b, 0, none⟩)] 191)).alloc (.cells #[.int .u16 age, .int .u8 opts, .int .u8 type, .int .u32 id, .int .u32 adv, .int .i32 seq, .int .u16 sum, .int .u16 len] 51)) (w.heap.size + 1) 51 #[.int .u16 age, .int .u8 opts, .int .u8 type, .int .u32 id, .int .u32 adv, .int .i32 seq, .int .u16 sum, .int .u16 len] := heap_alloc2_new w _ _
  have kz : (((w.alloc (.cells #[.pointer (some ⟨b, 0, none⟩)] 191)).alloc (.cells #[.int .u16 age, .int .u8 opts, .int .u8 type, .int .u32 id, .int .u32 adv, .int .i32 seq, .int .u16 sum, .int .u16 len] 51)) : World).heap.size = w.heap.size + 1 + 1 := by simp
  have kK : Keep K w ((w.alloc (.cells #[.pointer (some ⟨b, 0, none⟩)] 191)).alloc (.cells #[.int .u16 age, .int .u8 opts, .int .u8 type, .int .u32 id, .int .u32 adv, .int .i32 seq, .int .u16 sum, .int .u16 len] 51)) := ((Keep.refl _ _).alloc hK _).alloc (fun k hk => by have := hK k hk; simp; omega) _
  have hlt := hW.lt
  have kW : Wr (fun k => K k ∨ k = w.heap.size ∨ k = w.heap.size + 1) ((w.alloc (.cells #[.pointer (some ⟨b, 0, none⟩)] 191)).alloc (.cells #[.int .u16 age, .int .u8 opts, .int .u8 type, .int .u32 id, .int .u32 adv, .int .i32 seq, .int .u16 sum, .int .u16 len] 51)) b most bs 0 := by
    have h1 := (hW.add (.cells #[.pointer (some ⟨b, 0, none⟩)] 191)).add (.cells #[.int .u16 age, .int .u8 opts, .int .u8 type, .int .u32 id, .int .u32 adv, .int .i32 seq, .int .u16 sum, .int .u16 len] 51)
    refine h1.less fun k hk => ?_
    rcases hk with h | h | h
    · exact .inl (.inl h)
    · exact .inl (.inr h)
    · exact .inr (by simpa using h)
  have kL : ∀ k, (K k ∨ k = w.heap.size ∨ k = w.heap.size + 1) → k < (((w.alloc (.cells #[.pointer (some ⟨b, 0, none⟩)] 191)).alloc (.cells #[.int .u16 age, .int .u8 opts, .int .u8 type, .int .u32 id, .int .u32 adv, .int .i32 seq, .int .u16 sum, .int .u16 len] 51)) : World).heap.size := fun k hk => by
    rw [kz]
    rcases hk with h | h | h
    · have := hK k h; omega
    · omega
    · omega
  go_enter Tryz.func191, Tryz.ntmps191
  go_upto_region 1 with fail
  generalize ((w.alloc (.cells #[.pointer (some ⟨b, 0, none⟩)] 191)).alloc (.cells #[.int .u16 age, .int .u8 opts, .int .u8 type, .int .u32 id, .int .u32 adv, .int .i32 seq, .int .u16 sum, .int .u16 len] 51)) = w1 at k0 k1 kz kK kW kL ⊢
  obtain ⟨K2, hK2⟩ : ∃ K2 : Nat → Prop, K2 = fun k => K k ∨ k = w.heap.size ∨ k = w.heap.size + 1 := ⟨_, rfl⟩
  have e0 : K2 w.heap.size := by rw [hK2]; exact .inr (.inl rfl)
  have e1 : K2 (w.heap.size + 1) := by rw [hK2]; exact .inr (.inr rfl)
  have e2 : ∀ k, K k → K2 k := fun k hk => by rw [hK2]; exact .inl hk
  rw [← hK2] at kW
  replace kL : ∀ k, K2 k → k < w1.heap.size := fun k hk => kL k (by rw [hK2] at hk; exact hk)
  clear hK2 hW hK hlt
  have p0 : ∀ W, Keep K2 w1 W → W.cell? ⟨w.heap.size, 0, none⟩ = some (.pointer (some ⟨b, 0, none⟩)) := fun W h => (h.cell (p := ⟨w.heap.size, 0, none⟩) e0).trans (k0.cell 0)
  have q0 : ∀ W, Keep K2 w1 W → W.cell? ⟨w.heap.size + 1, 0, none⟩ = some (.int .u16 age) := fun W h => (h.cell (p := ⟨w.heap.size + 1, 0, none⟩) e1).trans (k1.cell 0)
  have q1 : ∀ W, Keep K2 w1 W → W.cell? ⟨w.heap.size + 1, 1, none⟩ = some (.int .u8 opts) := fun W h => (h.cell (p := ⟨w.heap.size + 1, 1, none⟩) e1).trans (k1.cell 1)
  have q2 : ∀ W, Keep K2 w1 W → W.cell? ⟨w.heap.size + 1, 2, none⟩ = some (.int .u8 type) := fun W h => (h.cell (p := ⟨w.heap.size + 1, 2, none⟩) e1).trans (k1.cell 2)
  have q3 : ∀ W, Keep K2 w1 W → W.cell? ⟨w.heap.size + 1, 3, none⟩ = some (.int .u32 id) := fun W h => (h.cell (p := ⟨w.heap.size + 1, 3, none⟩) e1).trans (k1.cell 3)
  have q4 : ∀ W, Keep K2 w1 W → W.cell? ⟨w.heap.size + 1, 4, none⟩ = some (.int .u32 adv) := fun W h => (h.cell (p := ⟨w.heap.size + 1, 4, none⟩) e1).trans (k1.cell 4)
  have q5 : ∀ W, Keep K2 w1 W → W.cell? ⟨w.heap.size + 1, 5, none⟩ = some (.int .i32 seq) := fun W h => (h.cell (p := ⟨w.heap.size + 1, 5, none⟩) e1).trans (k1.cell 5)
  have q6 : ∀ W, Keep K2 w1 W → W.cell? ⟨w.heap.size + 1, 6, none⟩ = some (.int .u16 sum) := fun W h => (h.cell (p := ⟨w.heap.size + 1, 6, none⟩) e1).trans (k1.cell 6)
  have q7 : ∀ W, Keep K2 w1 W → W.cell? ⟨w.heap.size + 1, 7, none⟩ = some (.int .u16 len) := fun W h => (h.cell (p := ⟨w.heap.size + 1, 7, none⟩) e1).trans (k1.cell 7)
  have HW0 : Wr K2 w1.drew b most bs 0 := kW
  have HWr := Lib.hid kW
  clear k0 k1 kW
  have HL := Lib.hid kL
  replace kz := Lib.hid kz
  replace e0 := Lib.hid e0
  replace e1 := Lib.hid e1
  have wa : IntKind.u32.wrap age = age := by rw [IntKind.wrap_u32]; omega
  have ws : IntKind.u32.wrap seq = seq % 4294967296 := by rw [IntKind.wrap_u32]
  have wm : IntKind.u32.wrap sum = sum := by rw [IntKind.wrap_u32]; omega
  have wl : IntKind.u32.wrap len = len := by rw [IntKind.wrap_u32]; omega
  have o6' : 0 ≤ seq % 4294967296 ∧ seq % 4294967296 < 4294967296 := by omega
  go_region_held3 (fun W => Keep K2 w1 W) (first | assumption | exact (Keep.refl _ _).drew | exact (Keep.refl _ _).drew.alloc HL.out _ | exact HS1.alloc (fun k hk => Nat.lt_of_lt_of_le (HL.out k hk) HS1.size) _ | fail)
    (first
      | (have _q := HSP; go_at_call 201; (first | (have C := num4 K2 b most _ id o4 _ HWP (fun k hk => Nat.lt_of_lt_of_le (HL.out k hk) HSP.size) hm (by simp only [List.length_append, List.length_cons, List.length_nil, beN_len _ _ (show 2 ≤ 4 by omega), beN_len _ _ (Nat.le_refl 4)]; omega); with_reducible refine Calls.mono C ?_) | (have C := num4 K2 b most _ adv o5 _ HWP (fun k hk => Nat.lt_of_lt_of_le (HL.out k hk) HSP.size) hm (by simp only [List.length_append, List.length_cons, List.length_nil, beN_len _ _ (show 2 ≤ 4 by omega), beN_len _ _ (Nat.le_refl 4)]; omega); with_reducible refine Calls.mono C ?_) | (have C := num4 K2 b most _ (seq % 4294967296) o6' _ HWP (fun k hk => Nat.lt_of_lt_of_le (HL.out k hk) HSP.size) hm (by simp only [List.length_append, List.length_cons, List.length_nil, beN_len _ _ (show 2 ≤ 4 by omega), beN_len _ _ (Nat.le_refl 4)]; omega); with_reducible refine Calls.mono C ?_) | (have C := num2 K2 b most _ sum o7 _ HWP (fun k hk => Nat.lt_of_lt_of_le (HL.out k hk) HSP.size) hm (by simp only [List.length_append, List.length_cons, List.length_nil, beN_len _ _ (show 2 ≤ 4 by omega), beN_len _ _ (Nat.le_refl 4)]; omega); with_reducible refine Calls.mono C ?_) | (have C := num2 K2 b most _ len o8 _ HWP (fun k hk => Nat.lt_of_lt_of_le (HL.out k hk) HSP.size) hm (by simp only [List.length_append, List.length_cons, List.length_nil, beN_len _ _ (show 2 ≤ 4 by omega), beN_len _ _ (Nat.le_refl 4)]; omega); with_reducible refine Calls.mono C ?_)); rintro x w' ⟨rfl, k1, k2⟩; replace HSP := HSP.trans k1; replace HWP := k2; clear k1 k2)
      | (go_at_call 201; have C := num2 K2 b most bs age o1 _ HW0 HL.out hm (by omega); with_reducible refine Calls.mono C ?_; clear C; rintro x w2 ⟨rfl, k1, k2⟩; have HS1 : Keep K2 w1 w2 := (Keep.refl _ _).drew.trans k1; have HW1 := k2; clear k1 k2)
      | (have _q := HSl; go_at_call 192; have C := put_room (fun k => K2 k ∨ k = w1.heap.size) b most _ _ _ [opts, type] _ HWB (fun k hk => by rcases hk with hk | hk; (exact Nat.lt_of_lt_of_le (HL.out k hk) HS1.size); omega) (by omega) HSl (by simp only [List.length_append, List.length_cons, List.length_nil, beN_len _ _ (show 2 ≤ 4 by omega)]; omega); with_reducible refine Calls.mono C ?_; clear C; rintro x w3 ⟨rfl, k1, k2⟩; have HSP : Keep K2 w1 w3 := HS1.trans (k1.mono fun k hk => .inl hk); have HWP := k2.less (fun k hk => .inl hk); clear k1 k2)
      | (go_at_call 201; have C := num2_beside K2 b most bs age opts type o1 w1 HWr.out HL.out hm (by omega); with_reducible refine Calls.mono C ?_; clear C; rintro x w2 ⟨rfl, HS1, HWB, HSl, HZ⟩)
      | (go_at_call 192; have C := put_room K2 b most _ _ _ [opts, type] _ (HW1.alloc (.cells #[.int .u8 opts, .int .u8 type] 5)) (fun k hk => by have := Nat.lt_of_lt_of_le (HL.out k hk) HS1.size; simp; omega) (by omega) (Sl.lit w2 #[.int .u8 opts, .int .u8 type] 5 (by simp [maxLen]) rfl) (by simp only [List.length_append, List.length_cons, List.length_nil, beN_len _ _ (show 2 ≤ 4 by omega)]; omega); with_reducible refine Calls.mono C ?_; clear C; rintro x w3 ⟨rfl, k1, k2⟩; have HSP : Keep K2 w1 w3 := (HS1.alloc (fun k hk => Nat.lt_of_lt_of_le (HL.out k hk) HS1.size) _).trans k1; have HWP := k2; clear k1 k2)
      | (go_at_call 201; trace_state; fail)
      | (go_at_call 192; trace_state; fail)
      | fail)
  all_goals
    go_end0
    refine ⟨rfl, kK.trans (HSP.mono e2), ?_⟩
    have H := HWP.less e2
    simp only [List.append_assoc] at H
    exact H
end Go.Proofs.YtiikagabdiphkaaGreat
