/- container/heap over tree's queue: what is in the queue, whatever its order. -/
import Derived.Test.YtdilbcmnfpmijaaTreeB
namespace Go.Proofs.Ytdilbcmnfpmijaa
open Go.RowKit Go.Lo

theorem meth_len (n q : Nat) (v : Value) (W : World) (hc : W.cell? ⟨q, 0, none⟩ = some v) : (method (n + 1) 121 (.pointer (some ⟨q, 0, none⟩)) "Len").run Try.prog W = .ok (42, v) W :=
  method_val (e := 125) (by kernel_rfl) (by kernel_rfl) n q v W (by go_simp)
theorem meth_less (n q : Nat) (v : Value) (W : World) (hc : W.cell? ⟨q, 0, none⟩ = some v) : (method (n + 1) 121 (.pointer (some ⟨q, 0, none⟩)) "Less").run Try.prog W = .ok (124, v) W :=
  method_val (e := 125) (by kernel_rfl) (by kernel_rfl) n q v W (by go_simp)
theorem meth_swap (n q : Nat) (v : Value) (W : World) (hc : W.cell? ⟨q, 0, none⟩ = some v) : (method (n + 1) 121 (.pointer (some ⟨q, 0, none⟩)) "Swap").run Try.prog W = .ok (127, v) W :=
  method_val (e := 125) (by kernel_rfl) (by kernel_rfl) n q v W (by go_simp)
theorem meth_pop (n q : Nat) (W : World) : (method (n + 1) 121 (.pointer (some ⟨q, 0, none⟩)) "Pop").run Try.prog W = .ok (125, .pointer (some ⟨q, 0, none⟩)) W :=
  method_ptr (e := 125) (by kernel_rfl) (by kernel_rfl) n q W
theorem meth_push (n q : Nat) (W : World) : (method (n + 1) 121 (.pointer (some ⟨q, 0, none⟩)) "Push").run Try.prog W = .ok (126, .pointer (some ⟨q, 0, none⟩)) W :=
  method_ptr (e := 125) (by kernel_rfl) (by kernel_rfl) n q W

/-- the queue holds what it held, in whatever order -/
def Queued (w0 w : World) (base q : Nat) (l : List Ent) : Prop := ∃ l', QueueAt w base q l' ∧ l'.Perm l ∧ QStep w0 w q

theorem qswap_any (base q i k : Nat) (l : List Ent) (v : Value) (w : World) (hb : base ≤ q) (hcell : w.heap[q]? = some (.cells #[v] 125 (0, 0))) (hne : v.ownBlock ≠ some q) (hown : w.ownsRow base 123 2 v l.length (l.flatMap entCells)) (hi : i < l.length) (hk : k < l.length) (hn : l.length ≤ 1099511627776) :
    Calls Try.prog 127 #[v, .int .i64 i, .int .i64 k] w fun e w' => e = .returned (.tuple #[]) ∧ Queued w w' base q l := by
  refine (swap_any base v l i k w hi hk hown hn).mono fun e w' ⟨he, ho, hg⟩ => ⟨he, (l.set i l[k]).set k l[i], ⟨hb, v, ?_, hne, by simpa using ho⟩, List.set_set_perm hi hk, ⟨hg.os, hg.tape, hg.output, hg.size, fun j hj hn => hg.block j hj (fun e => hn (.inr ⟨v, hcell, e.symm⟩)), fun j hf => .inl ?_⟩⟩
  · exact (hg.block q (lt_of_block hcell) hne.symm).trans hcell
  · unfold QF at hf ⊢
    rw [hg.block q (lt_of_block hcell) hne.symm] at hf
    exact hf

theorem qless_any (base i k : Nat) (x y : Int) (hx : x = i) (hy : y = k) (l : List Ent) (v : Value) (w : World) (hi : i < l.length) (hk : k < l.length) (hown : w.ownsRow base 123 2 v l.length (l.flatMap entCells)) (hn : l.length ≤ 1099511627776) :
    Calls Try.prog 124 #[v, .int .i64 x, .int .i64 y] w fun e w' => ∃ b n, e = .returned (.bool b) ∧ w' = w.drewN n := by
  subst hx hy
  exact (less_any base v l i k w hi hk hown hn).mono fun e w' ⟨he, n, hw⟩ => ⟨_, n, he, hw⟩
theorem qswap_int (base q i k : Nat) (x y : Int) (hx : x = i) (hy : y = k) (l : List Ent) (v : Value) (w : World) (hb : base ≤ q) (hcell : w.heap[q]? = some (.cells #[v] 125 (0, 0))) (hne : v.ownBlock ≠ some q) (hown : w.ownsRow base 123 2 v l.length (l.flatMap entCells)) (hi : i < l.length) (hk : k < l.length) (hn : l.length ≤ 1099511627776) :
    Calls Try.prog 127 #[v, .int .i64 x, .int .i64 y] w fun e w' => e = .returned (.tuple #[]) ∧ Queued w w' base q l := by
  subst hx hy
  exact qswap_any base q i k l v w hb hcell hne hown hi hk hn

def BoolQueued (w : World) (base q : Nat) (l : List Ent) (e : Ending) (w' : World) : Prop := ∃ b, e = .returned (.bool b) ∧ Queued w w' base q l

theorem Queued.on {w w1 w2 : World} {base q : Nat} {l l1 : List Ent} (hp : l1.Perm l) (hb : QStep w w1 q) (h : Queued w1 w2 base q l1) : Queued w w2 base q l :=
  let ⟨l2, h1, h2, h3⟩ := h
  ⟨l2, h1, h2.trans hp, hb.trans h3⟩

set_option maxRecDepth 100000 in
set_option maxHeartbeats 1000000 in
theorem hdown_any (base q n : Nat) (l : List Ent) (w : World) (hq : QueueAt w base q l) (hnl : n ≤ l.length) (hn : l.length ≤ 1099511627776) :
    Calls Try.prog 64 #[.iface 121 (.pointer (some ⟨q, 0, none⟩)), .int .i64 0, .int .i64 n] w (BoolQueued w base q l) := by
  go_enter Try.func64, Try.ntmps64
  go_wp2_with fail
  go_loopw [7] (fun i wr => ∃ k : Nat, k ≤ n ∧ i = .int .i64 k ∧ Queued w wr base q l) (fun i _ => n + 1 - (intOf i).toNat)
  case atStart => exact ⟨0, Nat.zero_le _, rfl, l, hq, List.Perm.refl _, QStep.refl _ _⟩
  case round =>
    obtain ⟨k, hk, rfl, l1, ⟨hb, v, hcell, hne, hown⟩, hperm, hbel⟩ := hrel
    have hl1 := hperm.length_eq
    have Hl := Lib.hid hl1
    have hle : n ≤ l1.length := by omega
    have hle2 : l1.length ≤ 1099511627776 := by omega
    clear hl1
    have hql := lt_of_block hcell
    have hc0 := cell_of_one hcell
    have Hcell := Lib.hid hcell
    clear hcell
    by_cases hj : 2 * k + 1 < n
    · have hm1 := fun (m : Nat) (W : World) => meth_less m q v W
      have hm2 := fun (m : Nat) (W : World) => meth_swap m q v W
      by_cases hj2 : 2 * k + 2 < n
      · go_wp2_with fail
        refine Calls.mono (qless_any base (2 * k + 2) (2 * k + 1) _ _ (by omega) (by omega) l1 v _ (by omega) (by omega) hown hle2) ?_
        rintro e w2 ⟨b1, n1, rfl, rfl⟩
        cases b1
        · go_wp2_with fail
          refine Calls.mono (qless_any base (2 * k + 1) k _ _ (by omega) (by omega) l1 v _ (by omega) (by omega) hown hle2) ?_
          rintro e w2 ⟨b2, n2, rfl, rfl⟩
          cases b2
          · go_wp2_with fail
            go_ret
            exact ⟨_, rfl, l1, ⟨hb, v, Hcell.out, hne, hown⟩, hperm, hbel.drewN _⟩
          · go_wp2_with fail
            refine Calls.mono (qswap_int base q k (2 * k + 1) _ _ (by omega) (by omega) l1 v _ hb Hcell.out hne hown (by omega) (by omega) hle2) ?_
            rintro e w2 ⟨rfl, hQ⟩
            go_wp2_with fail
            go_roundw
            case rel => exact ⟨2 * k + 1, by omega, by go_num, Queued.on hperm (hbel.drewN _) hQ⟩
            case measure => simp [intOf]; omega
        · go_wp2_with fail
          refine Calls.mono (qless_any base (2 * k + 2) k _ _ (by omega) (by omega) l1 v _ (by omega) (by omega) hown hle2) ?_
          rintro e w2 ⟨b2, n2, rfl, rfl⟩
          cases b2
          · go_wp2_with fail
            go_ret
            exact ⟨_, rfl, l1, ⟨hb, v, Hcell.out, hne, hown⟩, hperm, hbel.drewN _⟩
          · go_wp2_with fail
            refine Calls.mono (qswap_int base q k (2 * k + 2) _ _ (by omega) (by omega) l1 v _ hb Hcell.out hne hown (by omega) (by omega) hle2) ?_
            rintro e w2 ⟨rfl, hQ⟩
            go_wp2_with fail
            go_roundw
            case rel => exact ⟨2 * k + 2, by omega, by go_num, Queued.on hperm (hbel.drewN _) hQ⟩
            case measure => simp [intOf]; omega
      · go_wp2_with fail
        refine Calls.mono (qless_any base (2 * k + 1) k _ _ (by omega) (by omega) l1 v _ (by omega) (by omega) hown hle2) ?_
        rintro e w2 ⟨b2, n2, rfl, rfl⟩
        cases b2
        · go_wp2_with fail
          go_ret
          exact ⟨_, rfl, l1, ⟨hb, v, Hcell.out, hne, hown⟩, hperm, hbel.drewN _⟩
        · go_wp2_with fail
          refine Calls.mono (qswap_int base q k (2 * k + 1) _ _ (by omega) (by omega) l1 v _ hb Hcell.out hne hown (by omega) (by omega) hle2) ?_
          rintro e w2 ⟨rfl, hQ⟩
          go_wp2_with fail
          go_roundw
          case rel => exact ⟨2 * k + 1, by omega, by go_num, Queued.on hperm (hbel.drewN _) hQ⟩
          case measure => simp [intOf]; omega
    · go_wp2_with fail
      go_ret
      exact ⟨_, rfl, l1, ⟨hb, v, Hcell.out, hne, hown⟩, hperm, hbel⟩

set_option maxRecDepth 100000 in
set_option maxHeartbeats 1000000 in
theorem hup_any (base q j : Nat) (l : List Ent) (w : World) (hq : QueueAt w base q l) (hj : j < l.length) (hn : l.length ≤ 1099511627776) :
    Calls Try.prog 65 #[.iface 121 (.pointer (some ⟨q, 0, none⟩)), .int .i64 j] w fun e w' => e = .returned (.tuple #[]) ∧ Queued w w' base q l := by
  go_enter Try.func65, Try.ntmps65
  go_wp2_with fail
  go_loopw [1] (fun i wr => ∃ k : Nat, k < l.length ∧ i = .int .i64 k ∧ Queued w wr base q l) (fun i _ => (intOf i).toNat)
  case atStart => exact ⟨j, hj, rfl, l, hq, List.Perm.refl _, QStep.refl _ _⟩
  case round =>
    obtain ⟨k, hk, rfl, l1, ⟨hb, v, hcell, hne, hown⟩, hperm, hbel⟩ := hrel
    have hl1 := hperm.length_eq
    have Hl := Lib.hid hl1
    have hle : k < l1.length := by omega
    have hle2 : l1.length ≤ 1099511627776 := by omega
    clear hl1
    have hql := lt_of_block hcell
    have hc0 := cell_of_one hcell
    have Hcell := Lib.hid hcell
    clear hcell
    by_cases hk0 : k = 0
    · subst hk0
      go_wp2_with fail
      go_end0
      exact ⟨rfl, l1, ⟨hb, v, Hcell.out, hne, hown⟩, hperm, hbel⟩
    · have hm1 := fun (m : Nat) (W : World) => meth_less m q v W
      have hm2 := fun (m : Nat) (W : World) => meth_swap m q v W
      have hdiv : ((k : Int) - 1) / 2 = (((k - 1) / 2 : Nat) : Int) := by omega
      have heq : ((((k : Int) - 1) / 2) == (k : Int)) = false := by rw [beq_eq_false_iff_ne]; omega
      go_wp2_with fail
      refine Calls.mono (qless_any base k ((k - 1) / 2) _ _ (by omega) (by omega) l1 v _ (by omega) (by omega) hown hle2) ?_
      rintro e w2 ⟨b2, n2, rfl, rfl⟩
      cases b2
      · go_wp2_with fail
        go_end0
        exact ⟨rfl, l1, ⟨hb, v, Hcell.out, hne, hown⟩, hperm, hbel.drewN _⟩
      · go_wp2_with fail
        refine Calls.mono (qswap_int base q ((k - 1) / 2) k _ _ (by omega) (by omega) l1 v _ hb Hcell.out hne hown (by omega) (by omega) hle2) ?_
        rintro e w2 ⟨rfl, hQ⟩
        go_wp2_with fail
        go_roundw
        case rel => exact ⟨(k - 1) / 2, by omega, by go_num, Queued.on hperm (hbel.drewN _) hQ⟩
        case measure => simp [intOf]; omega

def Popped (w : World) (base q : Nat) (l : List Ent) (e : Ending) (w' : World) : Prop :=
  ∃ x l', e = .returned (.iface 123 (.agg #[.int .u64 x.1, .int .i64 x.2])) ∧ QueueAt w' base q l' ∧ (x :: l').Perm l ∧ QStep w w' q

set_option maxRecDepth 100000 in
set_option maxHeartbeats 400000 in
theorem hpop_any (base q : Nat) (l : List Ent) (w : World) (hq : QueueAt w base q l) (h0 : 0 < l.length) (hn : l.length ≤ 1099511627776) :
    Calls Try.prog 43 #[.iface 121 (.pointer (some ⟨q, 0, none⟩))] w (Popped w base q l) := by
  obtain ⟨hb, v, hcell, hne, hown⟩ := hq
  have hc0 := cell_of_one hcell
  have Hcell := Lib.hid hcell
  clear hcell
  obtain ⟨_, A, c, rfl, _, _, _⟩ := Sl.of_own hown
  have hm0 := fun (m : Nat) (W : World) => meth_len m q (.slice A l.length c) W
  have hm1 := fun (m : Nat) (W : World) => meth_swap m q (.slice A l.length c) W
  have hm2 := fun (m : Nat) (W : World) => meth_pop m q W
  go_enter Try.func43, Try.ntmps43
  go_wp2_with fail
  refine Calls.mono (len_any _ _ _ _) ?_
  rintro e w2 ⟨rfl, rfl⟩
  go_wp2_with fail
  refine Calls.mono (qswap_int base q 0 (l.length - 1) _ _ (by omega) (by omega) l _ _ hb Hcell.out hne hown (by omega) (by omega) hn) ?_
  rintro e w2 ⟨rfl, l2, hQ2, hp2, hb2⟩
  have hl2 := hp2.length_eq
  have hle2 : l.length - 1 ≤ l2.length := by omega
  have hle3 : l2.length ≤ 1099511627776 := by omega
  have Hl2 := Lib.hid hl2
  clear hl2 hc0
  have hc2 : (l.length : Int) - 1 = ((l.length - 1 : Nat) : Int) := by omega
  go_wp2_with fail
  refine Calls.mono (hdown_any base q (l.length - 1) l2 _ hQ2 hle2 hle3) ?_
  rintro e w3 ⟨b, rfl, l3, hQ3, hp3, hb3⟩
  have hl3 := hp3.length_eq
  have hl30 : l3 ≠ [] := by
    intro h
    rw [h, Hl2.out] at hl3
    simp at hl3; omega
  obtain ⟨l4, x, rfl⟩ : ∃ l4 x, l3 = l4 ++ [x] := ⟨_, _, (List.dropLast_concat_getLast hl30).symm⟩
  have hle4 : l4.length ≤ 1099511627776 := by simp at hl3; omega
  have Hl3 := Lib.hid hl3
  clear hl3 hl30
  go_wp2_with fail
  refine Calls.mono (qpop_any base q l4 x _ hQ3 hle4) ?_
  rintro e w4 ⟨rfl, hQ4, hb4⟩
  go_wp2
  go_ret
  exact ⟨x, l4, rfl, hQ4, (List.perm_append_comm (l₁ := [x]) (l₂ := l4)).trans (hp3.trans hp2), hb2.trans (hb3.trans hb4)⟩

theorem qpush_any (base q : Nat) (l : List Ent) (x : Ent) (w : World) (hbw : base ≤ w.heap.size) (hq : QueueAt w base q l) (hn : l.length ≤ 1099511627776) :
    Calls Try.prog 126 #[.pointer (some ⟨q, 0, none⟩), .iface 123 (.agg #[.int .u64 x.1, .int .i64 x.2])] w
      fun e w' => e = .returned (.tuple #[]) ∧ QueueAt w' base q (l ++ [x]) ∧ QStep w w' q := by
  go_enter Try.func126, Try.ntmps126
  go_wp2_with fail
  refine Calls.mono (qadd_any base q l x _ hbw hq hn) ?_
  rintro e w2 ⟨rfl, hQ, hB⟩
  go_wp2_with fail
  go_end0
  exact ⟨rfl, hQ, hB⟩

def Pushed (w : World) (base q : Nat) (l : List Ent) (x : Ent) (e : Ending) (w' : World) : Prop :=
  e = .returned (.tuple #[]) ∧ ∃ l', QueueAt w' base q l' ∧ l'.Perm (x :: l) ∧ QStep w w' q

set_option maxRecDepth 100000 in
set_option maxHeartbeats 400000 in
theorem hpush_any (base q : Nat) (l : List Ent) (x : Ent) (w : World) (hbw : base ≤ w.heap.size) (hq : QueueAt w base q l) (hn : l.length < 1099511627776) :
    Calls Try.prog 44 #[.iface 121 (.pointer (some ⟨q, 0, none⟩)), .iface 123 (.agg #[.int .u64 x.1, .int .i64 x.2])] w (Pushed w base q l x) := by
  have hm1 := fun (m : Nat) (W : World) => meth_push m q W
  go_enter Try.func44, Try.ntmps44
  go_wp2_with fail
  refine Calls.mono (qpush_any base q l x _ hbw hq (Nat.le_of_lt hn)) ?_
  rintro e w2 ⟨rfl, hQ2, hb2⟩
  obtain ⟨hb, v, hcell, hne, hown⟩ := hQ2
  have hc0 := cell_of_one hcell
  have Hcell := Lib.hid hcell
  clear hcell
  obtain ⟨_, A, c, rfl, _, _, _⟩ := Sl.of_own hown
  have hm0 := fun (m : Nat) (W : World) => meth_len m q (.slice A (l ++ [x]).length c) W
  have hlen : (l ++ [x]).length = l.length + 1 := by simp
  have hle : (l ++ [x]).length ≤ 1099511627776 := by rw [hlen]; omega
  have hpos : 0 < (l ++ [x]).length := by rw [hlen]; omega
  have hperm : (l ++ [x]).Perm (x :: l) := List.perm_append_comm
  clear hlen
  generalize l ++ [x] = l2 at *
  go_wp2_with fail
  refine Calls.mono (len_any _ _ _ _) ?_
  rintro e w3 ⟨rfl, rfl⟩
  have hc2 : (l2.length : Int) - 1 = ((l2.length - 1 : Nat) : Int) := by omega
  go_wp2_with fail
  refine Calls.mono (hup_any base q (l2.length - 1) l2 _ ⟨hb, _, Hcell.out, hne, hown⟩ (by omega) hle) ?_
  rintro e w4 ⟨rfl, l3, hQ3, hp3, hb3⟩
  go_wp2_with fail
  go_end0
  exact ⟨rfl, l3, hQ3, hp3.trans hperm, hb2.trans hb3⟩

end Go.Proofs.Ytdilbcmnfpmijaa
