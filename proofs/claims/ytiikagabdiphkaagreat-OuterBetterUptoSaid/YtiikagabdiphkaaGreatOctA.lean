/- octet's writer. Conditions: its block and its row are the call's own; numbers fit their bytes. -/
import Derived.Test.YtiikagabdiphkaaGreatProg
import Derived.Test.YtiikagabdiphkaaGreatLib4
namespace Go.Lo
open Go.RowKit

/-- what the blocks of K hold stays -/
structure Keep (K : Nat → Prop) (w w' : World) : Prop where
  os : w'.os = w.os
  tape : w'.tape = w.tape
  output : w'.output = w.output
  size : w.heap.size ≤ w'.heap.size
  block : ∀ k, K k → w'.heap[k]? = w.heap[k]?

section
variable {K K' : Nat → Prop} {a w w' : World}
theorem Keep.refl (K : Nat → Prop) (w : World) : Keep K w w := ⟨rfl, rfl, rfl, Nat.le_refl _, fun _ _ => rfl⟩
theorem Keep.trans (h : Keep K a w) (h' : Keep K w w') : Keep K a w' := ⟨h'.os.trans h.os, h'.tape.trans h.tape, h'.output.trans h.output, Nat.le_trans h.size h'.size, fun k hk => (h'.block k hk).trans (h.block k hk)⟩
theorem Keep.drew (h : Keep K a w) : Keep K a w.drew := ⟨h.os, h.tape, h.output, h.size, h.block⟩
theorem Keep.drewN (h : Keep K a w) (n : Nat) : Keep K a (w.drewN n) := ⟨h.os, h.tape, h.output, h.size, h.block⟩
theorem Keep.of_drew (h : Keep K w.drew w') : Keep K w w' := ⟨h.os, h.tape, h.output, h.size, h.block⟩
theorem Keep.alloc (h : Keep K a w) (hK : ∀ k, K k → k < w.heap.size) (o : Obj) : Keep K a (w.alloc o) :=
  ⟨h.os, h.tape, h.output, Nat.le_trans h.size (by simp), fun k hk => (Below.heap_alloc w o k (hK k hk)).trans (h.block k hk)⟩
theorem Keep.setCell (h : Keep K a w) {p : Addr} (hp : ¬ K p.block) (u : Value) : Keep K a (w.setCell p u) :=
  ⟨h.os, h.tape, h.output, by simpa [World.setCell] using h.size, fun k hk => (Below.heap_setCell w p u k (fun e => hp (e ▸ hk))).trans (h.block k hk)⟩
theorem Keep.mono (h : Keep K a w) (hK : ∀ k, K' k → K k) : Keep K' a w := ⟨h.os, h.tape, h.output, h.size, fun k hk => h.block k (hK k hk)⟩
theorem Keep.of_below {B : Nat} (h : Below B a w) (hK : ∀ k, K k → k < B) : Keep K a w := ⟨h.os, h.tape, h.output, h.size, fun k hk => h.block k (hK k hk)⟩
theorem Keep.below {B : Nat} (h : Keep K a w) (hK : ∀ k, k < B → K k) : Below B a w := ⟨h.os, h.tape, h.output, h.size, fun k hk => h.block k (hK k hk)⟩
theorem Keep.of_grown {row : Option Nat} (h : a.grownBy w row) (hK : ∀ k, K k → k < a.heap.size ∧ some k ≠ row) : Keep K a w := ⟨h.os, h.tape, h.output, h.size, fun k hk => h.block k (hK k hk).1 (hK k hk).2⟩
theorem Keep.cell (h : Keep K a w) {p : Addr} (hp : K p.block) : w.cell? p = a.cell? p := by simp only [World.cell?, h.block _ hp]
theorem Keep.blk (h : Keep K a w) {g : Nat} {t : TypeId} {cs : Array Value} (hg : K g) (hb : Blk a g t cs) : Blk w g t cs := (h.block g hg).trans hb
theorem Keep.sl (h : Keep K a w) {B s n : Nat} {v : Value} {xs : List Value} (hK : ∀ k, k < B → K k) (hs : Sl a B s v n xs) : Sl w B s v n xs := hs.below (h.below hK)
theorem Keep.own (h : Keep K a w) {base s n : Nat} {e : TypeId} {v : Value} {xs : List Value} (hs : a.ownsRow base e s v n xs) (hv : ∀ g, v.ownBlock = some g → K g) : w.ownsRow base e s v n xs := own_same hs fun g hg => h.block g (hv g hg)
end

def u8c (x : Int) : Value := .int .u8 x
theorem u8s_oneCell (l : List Int) : ∀ u ∈ l.map u8c, u.oneCell' = true := by
  intro u hu
  obtain ⟨x, _, rfl⟩ := List.mem_map.1 hu
  rfl
end Go.Lo

namespace Go.Proofs.YtiikagabdiphkaaGreat
open Go.RowKit Go.Lo

theorem u8T : ElT Tryz.prog 52 5 1 1 := ⟨by kernel_rfl, by
  obtain ⟨i, hi, h1, h2, h3⟩ := info_parts (show (Tryz.prog.info? 5).map (fun i => (i.zero, i.size, i.bytes)) = some (some (.int .u8 0), 1, 1) by kernel_rfl)
  exact ⟨i, _, hi, h1, h2, h3, rfl⟩, by omega⟩

/-- a writer: what it has, its limit, its error -/
def Wr (K : Nat → Prop) (w : World) (b : Nat) (most : Int) (bs : List Int) (e : Int) : Prop :=
  ¬ K b ∧ ∃ v, Blk w b 227 #[v, .int .i64 most, .int .i64 e, .bool true] ∧ w.ownsRow 0 5 1 v bs.length (bs.map u8c) ∧ ∀ g, v.ownBlock = some g → g ≠ b ∧ ¬ K g

/-- Put, without memory -/
def putW (most : Int) (s : List Int × Int) (xs : List Int) : List Int × Int :=
  if s.2 ≠ 0 then s else if most - s.1.length < xs.length then (s.1, 11) else (s.1 ++ xs, 0)

theorem whole_any (K : Nat → Prop) (b : Nat) (most : Int) (bs : List Int) (e : Int) (w : World) (h : Wr K w b most bs e) : Calls Tryz.prog 204 #[.pointer (some ⟨b, 0, none⟩)] w fun x w' => x = .returned (.bool (e == 0)) ∧ w' = w := by
  obtain ⟨_, v, hb, _, _⟩ := h
  have c2 := hb.cell 2
  have c3 := hb.cell 3
  simp only [List.getElem?_toArray, List.getElem?_cons_zero, List.getElem?_cons_succ] at c2 c3
  clear hb
  go_enter Tryz.func204, Tryz.ntmps204
  go_wp2
  go_ret
  exact ⟨rfl, rfl⟩

set_option maxRecDepth 100000 in
set_option maxHeartbeats 1000000 in
theorem put_any (K : Nat → Prop) (b : Nat) (most : Int) (bs : List Int) (e : Int) (B : Nat) (xv : Value) (xs : List Int) (w : World) (h : Wr K w b most bs e) (hK : ∀ k, K k → k < w.heap.size) (hm : 0 ≤ most ∧ most ≤ 140737488355328) (hx : Sl w B 1 xv xs.length (xs.map u8c)) (hl : bs.length + xs.length ≤ 140737488355328) :
    Calls Tryz.prog 192 #[.pointer (some ⟨b, 0, none⟩), xv] w fun x w' => x = .returned (.pointer (some ⟨b, 0, none⟩)) ∧ Keep K w w' ∧ Wr K w' b most (putW most (bs, e) xs).1 (putW most (bs, e) xs).2 := by
  have CW := Lib.hid (whole_any K b most bs e w h)
  have h' := h
  obtain ⟨hKb, v, hb, ho, hv⟩ := h
  have hx0 := hx
  obtain ⟨-, A, c, rfl, -⟩ := hx
  obtain ⟨-, Av, cv, rfl, -⟩ := Sl.of_own ho
  have c0 := hb.cell 0
  have c1 := hb.cell 1
  have c2 := hb.cell 2
  have f0 := hb.free 0
  have f2 := hb.free 2
  simp only [List.getElem?_toArray, List.getElem?_cons_zero, List.getElem?_cons_succ] at c0 c1 c2
  by_cases he : e = 0
  · subst he
    rw [show ((0 : Int) == 0) = true from rfl] at CW
    by_cases hs : most - (bs.length : Int) < (xs.length : Int)
    · have hp : putW most (bs, 0) xs = (bs, 11) := by simp only [putW]; rw [if_neg (by simp), if_pos hs]
      rw [hp]
      have iw : IntKind.i64.wrap (most - (bs.length : Int)) = most - (bs.length : Int) := IntWalk.i64_in _ (by omega)
      replace hb := Lib.hid hb
      replace ho := Lib.hid ho
      replace hv := Lib.hid hv
      clear h' hx0
      go_enter Tryz.func192, Tryz.ntmps192
      go_wp2_with (go_at_call 204; refine Calls.mono CW.out ?_; rintro x w1 ⟨rfl, rfl⟩)
      go_region
      go_wp2
      go_ret
      refine ⟨rfl, (Keep.refl _ _).drew.setCell (p := ⟨b, 2, none⟩) hKb _, hKb, _, (Blk.drew_ hb.out).set_ 2 _, own_same (w := w1.drew) ho.out fun g hg => Below.heap_setCell _ ⟨b, 2, none⟩ _ g (hv.out g hg).1, hv.out⟩
    · have hp : putW most (bs, 0) xs = (bs ++ xs, 0) := by simp only [putW]; rw [if_neg (by simp), if_neg hs]
      rw [hp]
      have iw : IntKind.i64.wrap (most - (bs.length : Int)) = most - (bs.length : Int) := IntWalk.i64_in _ (by omega)
      replace hb := Lib.hid hb
      replace ho := Lib.hid ho
      replace hv := Lib.hid hv
      replace hx0 := Lib.hid hx0
      clear h'
      go_enter Tryz.func192, Tryz.ntmps192
      go_wp2_with (go_at_call 204; refine Calls.mono CW.out ?_; rintro x w1 ⟨rfl, rfl⟩)
      go_region
      go_wp2_with (at_builtin; refine wpList_append rfl (.tmp 30) (.tmp 31) 52 rfl 0 u8T (.slice Av bs.length cv) bs.length (bs.map u8c) rfl ho.out.drew B (.slice A xs.length c) xs.length (xs.map u8c) rfl hx0.out.drew (u8s_oneCell xs) (by simp only [maxLen]; omega) (by omega) (by omega) ?_; intro v3 w3 ho3 hg3 hob3; have hT3 : Blk w3 b 227 _ := (Blk.drew_ hb.out).same (hg3.block b hb.out.lt (fun e => (hv.out b e.symm).1 rfl)); have t3c := hT3.cell 0; have f3c := hT3.free 0; simp only [List.getElem?_toArray, List.getElem?_cons_zero] at t3c; replace hT3 := Lib.hid hT3; replace hg3 := Lib.hid hg3; replace ho3 := Lib.hid ho3; replace hob3 := Lib.hid hob3; obtain ⟨-, A3, c3, rfl, -⟩ := Sl.of_own ho3.out)
      go_ret
      have hv3 : ∀ g, (Value.slice A3 (bs.length + xs.length) c3).ownBlock = some g → g ≠ b ∧ ¬ K g := by
        intro g hg
        rcases hob3.out with h | h
        · exact hv.out g (h ▸ hg)
        · rw [h] at hg
          obtain rfl := Option.some.inj hg
          exact ⟨fun e => absurd hb.out.lt (by rw [← e]; simp), fun hk => absurd (hK _ hk) (by simp)⟩
      refine ⟨rfl, (Keep.of_drew (Keep.of_grown hg3.out fun k hk => ⟨hK k hk, fun e => (hv.out k e.symm).2 hk⟩)).setCell (p := ⟨b, 0, none⟩) hKb _, hKb, _, hT3.out.set_ 0 _, ?_, hv3⟩
      rw [List.length_append, List.map_append]
      exact own_same ho3.out fun g hg => Below.heap_setCell w3 ⟨b, 0, none⟩ _ g (hv3 g hg).1
  · have he' : (e == 0) = false := beq_false_of_ne he
    have hp : putW most (bs, e) xs = (bs, e) := if_pos he
    rw [hp]
    have H := Lib.hid h'
    clear h' hb ho hv hx0
    rw [he'] at CW
    go_enter Tryz.func192, Tryz.ntmps192
    go_wp2_with (go_at_call 204; refine Calls.mono CW.out ?_; rintro x w1 ⟨rfl, rfl⟩)
    go_ret
    exact ⟨rfl, Keep.refl _ _, H.out⟩
end Go.Proofs.YtiikagabdiphkaaGreat
