/- octet's writer: numbers, and what is done. Conditions: its block and its row are the call's own; a number fits its bytes. -/
import Derived.Test.YtiikagabdiphkaaGreatOctA
namespace Go.Lo
open Go.RowKit
/-- a slice of an array's cells -/
theorem sl_at {w : World} {b : Nat} {t : TypeId} {cs : Array Value} (hb : Blk w b t cs) (off n : Nat) (xs : List Value) (hn : xs.length = n) (hm : n ≤ maxLen) (h : ∀ j u, xs[j]? = some u → cs[off + j]? = some u) : Sl w (b + 1) 1 (.slice (some ⟨b, off, none⟩) n n) n xs :=
  ⟨by omega, _, _, rfl, Nat.le_refl _, hm, fun _ => ⟨b, off, rfl, Nat.lt_succ_self _, fun j u hu => (hb.cell (off + j)).trans (h j u hu)⟩⟩
end Go.Lo
namespace Go.Proofs.YtiikagabdiphkaaGreat
open Go.RowKit Go.Lo

/-- a number's bytes -/
def be4 (v : Int) : List Int := [v / 16777216 % 256, v / 65536 % 256, v / 256 % 256, v % 256]
def beN (v : Int) (n : Nat) : List Int := (be4 v).drop (4 - n)
theorem beN_len (v : Int) (n : Nat) (h : n ≤ 4) : (beN v n).length = n := by simp [beN, be4]; omega

theorem fits_any (v : Int) (n : Nat) (hn : n = 2 ∨ n = 3 ∨ n = 4) (hv : 0 ≤ v ∧ v < 256 ^ n) (w : World) : Calls Tryz.prog 207 #[.int .u32 v, .int .i64 n] w fun x w' => x = .returned (.bool true) ∧ w' = w := by
  rcases hn with rfl | rfl | rfl
  · have q : v / 65536 = 0 := by omega
    go_enter Tryz.func207, Tryz.ntmps207
    go_wp2
    go_ret
    exact ⟨by simp, rfl⟩
  · have q : v / 16777216 = 0 := by omega
    go_enter Tryz.func207, Tryz.ntmps207
    go_wp2
    go_ret
    exact ⟨by simp, rfl⟩
  · go_enter Tryz.func207, Tryz.ntmps207
    go_wp2
    go_ret
    exact ⟨rfl, rfl⟩

theorem num_any (K : Nat → Prop) (b : Nat) (most : Int) (bs : List Int) (v : Int) (n : Nat) (hn : n = 2 ∨ n = 3 ∨ n = 4) (w : World) (h : Wr K w b most bs 0) (hK : ∀ k, K k → k < w.heap.size) (hm : 0 ≤ most ∧ most ≤ 140737488355328) (hl : bs.length + 4 ≤ 140737488355328) (c0 c1 c2 c3 : Int) (t : TypeId)
    (hc : beN v n = [c0, c1, c2, c3].drop (4 - n)) :
    Calls Tryz.prog 192 #[.pointer (some ⟨b, 0, none⟩), .slice (some ⟨w.heap.size, 4 - n, none⟩) n n] (w.alloc (.cells #[.int .u8 c0, .int .u8 c1, .int .u8 c2, .int .u8 c3] t)) fun x w' => x = .returned (.pointer (some ⟨b, 0, none⟩)) ∧ Keep K w w' ∧ Wr K w' b most (putW most (bs, 0) (beN v n)).1 (putW most (bs, 0) (beN v n)).2 := by
  have hA : Keep K w (w.alloc (.cells #[.int .u8 c0, .int .u8 c1, .int .u8 c2, .int .u8 c3] t)) := (Keep.refl _ _).alloc hK _
  have hb := Blk.new w t #[.int .u8 c0, .int .u8 c1, .int .u8 c2, .int .u8 c3]
  obtain ⟨h1, x, h2, h3, h4⟩ := h
  have hW : Wr K (w.alloc (.cells #[.int .u8 c0, .int .u8 c1, .int .u8 c2, .int .u8 c3] t)) b most bs 0 := ⟨h1, x, h2.alloc _, own_alloc h3 _, h4⟩
  have hln : (beN v n).length = n := beN_len v n (by omega)
  have hS : Sl (w.alloc (.cells #[.int .u8 c0, .int .u8 c1, .int .u8 c2, .int .u8 c3] t)) (w.heap.size + 1) 1 (.slice (some ⟨w.heap.size, 4 - n, none⟩) n n) (beN v n).length ((beN v n).map u8c) := by
    rw [hln]
    refine sl_at hb (4 - n) n _ (by rw [List.length_map, hln]) (by simp only [maxLen]; omega) fun j u hu => ?_
    rw [hc] at hu
    rcases hn with rfl | rfl | rfl
    all_goals
      rw [List.getElem?_map] at hu
      rcases j with _ | _ | _ | _ | j <;> simp_all [u8c]
  have C := put_any K b most bs 0 _ _ (beN v n) _ hW (fun k hk => by have := hK k hk; simp; omega) hm hS (by omega)
  refine Calls.mono C ?_
  rintro x w' ⟨rfl, k1, k2⟩
  exact ⟨rfl, hA.trans k1, k2⟩

set_option maxRecDepth 100000 in
theorem number_any (K : Nat → Prop) (b : Nat) (most : Int) (bs : List Int) (e v : Int) (n : Nat) (hn : n = 2 ∨ n = 3 ∨ n = 4) (hv : 0 ≤ v ∧ v < 256 ^ n) (w : World) (h : Wr K w b most bs e) (hK : ∀ k, K k → k < w.heap.size) (hm : 0 ≤ most ∧ most ≤ 140737488355328) (hl : bs.length + 4 ≤ 140737488355328) :
    Calls Tryz.prog 201 #[.pointer (some ⟨b, 0, none⟩), .int .u32 v, .int .i64 n] w fun x w' => x = .returned (.pointer (some ⟨b, 0, none⟩)) ∧ Keep K w w' ∧ Wr K w' b most (putW most (bs, e) (beN v n)).1 (putW most (bs, e) (beN v n)).2 := by
  have CW := Lib.hid (whole_any K b most bs e w h)
  by_cases he : e = 0
  · subst he
    rw [show ((0 : Int) == 0) = true from rfl] at CW
    have CF := Lib.hid (fits_any v n hn hv w)
    have CN := Lib.hid (num_any K b most bs v n hn w h hK hm hl)
    rcases hn with rfl | rfl | rfl
    · clear h
      go_enter Tryz.func201, Tryz.ntmps201
      go_wp2_with (first
        | (go_at_call 204; refine Calls.mono CW.out ?_; rintro x w1 ⟨rfl, rfl⟩)
        | (go_at_call 207; refine Calls.mono CF.out ?_; rintro x w2 ⟨rfl, rfl⟩)
        | (go_at_call 192; refine Calls.mono (CN.out _ _ _ _ _ ?_) ?_; (focus (simp [beN, be4] <;> omega)); rintro x w3 ⟨rfl, k1, k2⟩)
        | fail)
      go_ret
      exact ⟨rfl, k1, k2⟩
    · clear h
      go_enter Tryz.func201, Tryz.ntmps201
      go_wp2_with (first
        | (go_at_call 204; refine Calls.mono CW.out ?_; rintro x w1 ⟨rfl, rfl⟩)
        | (go_at_call 207; refine Calls.mono CF.out ?_; rintro x w2 ⟨rfl, rfl⟩)
        | (go_at_call 192; refine Calls.mono (CN.out _ _ _ _ _ ?_) ?_; (focus (simp [beN, be4] <;> omega)); rintro x w3 ⟨rfl, k1, k2⟩)
        | fail)
      go_ret
      exact ⟨rfl, k1, k2⟩
    · clear h
      go_enter Tryz.func201, Tryz.ntmps201
      go_wp2_with (first
        | (go_at_call 204; refine Calls.mono CW.out ?_; rintro x w1 ⟨rfl, rfl⟩)
        | (go_at_call 207; refine Calls.mono CF.out ?_; rintro x w2 ⟨rfl, rfl⟩)
        | (go_at_call 192; refine Calls.mono (CN.out _ _ _ _ _ ?_) ?_; (focus (simp [beN, be4] <;> omega)); rintro x w3 ⟨rfl, k1, k2⟩)
        | fail)
      go_ret
      exact ⟨rfl, k1, k2⟩
  · have he' : (e == 0) = false := beq_false_of_ne he
    have hp : ∀ xs, putW most (bs, e) xs = (bs, e) := fun xs => if_pos he
    rw [hp]
    have H := Lib.hid h
    clear h
    rw [he'] at CW
    go_enter Tryz.func201, Tryz.ntmps201
    go_wp2_with (go_at_call 204; refine Calls.mono CW.out ?_; rintro x w1 ⟨rfl, rfl⟩)
    go_ret
    exact ⟨rfl, Keep.refl _ _, H.out⟩

set_option maxRecDepth 100000 in
theorem write_any (most : Int) (hm : 0 ≤ most) (w : World) : Calls Tryz.prog 110 #[.int .i64 most] w fun x w' => x = .returned (.pointer (some ⟨w.heap.size, 0, none⟩)) ∧ w' = w.alloc (.cells #[.slice none 0 0, .int .i64 most, .int .i64 0, .bool true] 227) := by
  have h1 : ¬ most < 0 := by omega
  go_enter Tryz.func110, Tryz.ntmps110
  go_wp2
  go_ret
  exact ⟨rfl, rfl⟩
end Go.Proofs.YtiikagabdiphkaaGreat
