/- order.years, order.Old; state.Check over whatever state.Decode says. Conditions: the head's numbers are of their kinds, the body lies in memory. -/
import Derived.Test.YtiikagabdiphkaaGreatOctQ
namespace Go.Proofs.YtiikagabdiphkaaGreat
open Go.RowKit Go.Lo

/-- the age without its highest bit -/
def ageP (age : Int) : Int := bits BinOp.andNot IntKind.u16 age 32768
def oldP (age : Int) : Bool := decide (3600 ≤ ageP age)
theorem ageP_range (age : Int) : 0 ≤ ageP age ∧ ageP age < 65536 := by
  unfold ageP
  have h1 := bits_lo_u16 BinOp.andNot age 32768
  have h2 := bits_hi_u16 BinOp.andNot age 32768
  omega

set_option maxRecDepth 100000 in
theorem years_any (age : Int) (w : World) : Calls Tryz.prog 154 #[.int .u16 age] w fun x w' => x = .returned (.int .i64 (if 3600 ≤ ageP age then 3600 else ageP age)) ∧ w' = w := by
  have hr := ageP_range age
  unfold ageP at *
  by_cases h : 3600 ≤ bits BinOp.andNot IntKind.u16 age 32768
  · rw [if_pos h]
    go_enter Tryz.func154, Tryz.ntmps154
    go_wp2
    all_goals go_ret
    all_goals exact ⟨congrArg (fun z => Ending.returned (.int .i64 z)) (by omega), rfl⟩
  · rw [if_neg h]
    go_enter Tryz.func154, Tryz.ntmps154
    go_wp2
    all_goals go_ret
    all_goals exact ⟨congrArg (fun z => Ending.returned (.int .i64 z)) (by omega), rfl⟩

theorem old_any (age : Int) (w : World) : Calls Tryz.prog 130 #[.int .u16 age] w fun x w' => x = .returned (.bool (oldP age)) ∧ w' = w := by
  have C := Lib.hid (years_any age w)
  rw [show oldP age = decide (3600 ≤ ageP age) from rfl]
  generalize ageP age = q at *
  by_cases h : 3600 ≤ q
  · rw [if_pos h] at C
    rw [decide_eq_true h]
    go_enter Tryz.func130, Tryz.ntmps130
    go_wp2_with (go_at_call 154; refine Calls.mono C.out ?_; rintro x w' ⟨rfl, rfl⟩)
    go_ret
    exact ⟨rfl, rfl⟩
  · rw [if_neg h] at C
    rw [decide_eq_false h]
    have hq : (q == 3600) = false := by simp; omega
    go_enter Tryz.func130, Tryz.ntmps130
    go_wp2_with (go_at_call 154; refine Calls.mono C.out ?_; rintro x w' ⟨rfl, rfl⟩)
    go_ret
    exact ⟨by simp, rfl⟩

theorem be4_byte (v : Int) : ∀ x ∈ be4 v, 0 ≤ x ∧ x < 256 := by
  intro x hx
  simp only [be4, List.mem_cons, List.not_mem_nil, or_false] at hx
  omega
theorem beN_byte (v : Int) (n : Nat) : ∀ x ∈ beN v n, 0 ≤ x ∧ x < 256 := fun x hx => be4_byte v x (List.mem_of_mem_drop hx)
theorem headB_byte (h : OHead) (ok : HeadOk h) : ∀ x ∈ headB h, 0 ≤ x ∧ x < 256 := by
  intro x hx
  simp only [headB, List.mem_append, List.mem_cons, List.not_mem_nil, or_false] at hx
  rcases hx with h | (rfl | rfl) | h | h | h | h | h
  · exact beN_byte _ _ x h
  · exact ok.opts
  · exact ok.type
  · exact beN_byte _ _ x h
  · exact beN_byte _ _ x h
  · exact beN_byte _ _ x h
  · exact beN_byte _ _ x h
  · exact beN_byte _ _ x h

/-- a body's cells -/
abbrev bodyC (fl : Int) (A1 : Option Addr) (n1 c1 : Nat) (m : Int) (A2 : Option Addr) (n2 c2 : Nat) (k : Int) (t2 : Bool) (fw tg : Int) (A3 : Option Addr) (n3 c3 : Nat) : Array Value := #[.int .u8 fl, .slice A1 n1 c1, .int .u32 m, .slice A2 n2 c2, .int .u32 k, .bool t2, .int .u32 fw, .int .u32 tg, .slice A3 n3 c3]

/-- what Check says, where Decode says e -/
def chkP (h : OHead) (body : List Int) (e : Int) : Int :=
  if h.len ≠ 20 + (body.length : Int) then 22
  else if h.sum = 0 ∨ wholeB ((headB h ++ body).drop 2) = false then 23
  else if e ≠ 21 ∧ (h.seq = -2147483648 ∨ 3600 < ageP h.age) then 24 else e

set_option maxRecDepth 100000 in
set_option maxHeartbeats 1000000 in
theorem check_any (h : OHead) (ok : HeadOk h) (B : Nat) (bv : Value) (body : List Int) (w : World) (hb : Sl w B 1 bv body.length (body.map u8c)) (hB : B ≤ w.heap.size) (hn : body.length ≤ 1099511627776) (hl8 : ∀ x ∈ body, 0 ≤ x ∧ x < 256)
    (e : Int) (fl : Int) (A1 : Option Addr) (n1 c1 : Nat) (m : Int) (A2 : Option Addr) (n2 c2 : Nat) (k : Int) (t2 : Bool) (fw tg : Int) (A3 : Option Addr) (n3 c3 : Nat)
    (CD : ∀ W, Sl W B 1 bv body.length (body.map u8c) → B ≤ W.heap.size → h.len = 20 + (body.length : Int) → Calls Tryz.prog 62 #[stateVal h bv] W fun x w' => x = .returned (.tuple #[.agg (bodyC fl A1 n1 c1 m A2 n2 c2 k t2 fw tg A3 n3 c3), .int .i64 e]) ∧ Below W.heap.size W w') :
    Calls Tryz.prog 131 #[stateVal h bv] w fun x w' => x = .returned (.int .i64 (chkP h body e)) ∧ Below w.heap.size w w' := by
  have hb0 := hb
  have hlr := ok.len
  have hh8 : ∀ x ∈ (headB h ++ body).drop 2, 0 ≤ x ∧ x < 256 := fun x hx => by
    rcases List.mem_append.1 (List.mem_of_mem_drop hx) with h1 | h1
    · exact headB_byte h ok x h1
    · exact hl8 x h1
  have CW := fun W hs hz => bytes_any h ok B bv body W hs hz hn
  have hLn : (headB h ++ body).length = 20 + body.length := by rw [List.length_append, headB_len]
  have hP : chkP h body e = if h.len ≠ 20 + (body.length : Int) then 22 else if h.sum = 0 ∨ wholeB ((headB h ++ body).drop 2) = false then 23 else if e ≠ 21 ∧ (h.seq = -2147483648 ∨ 3600 < ageP h.age) then 24 else e := rfl
  generalize headB h ++ body = L at CW hh8 hLn hP
  generalize chkP h body e = r at hP ⊢
  obtain ⟨-, A, c, rfl, -⟩ := hb
  replace CW := Lib.hid CW
  replace hLn := Lib.hid hLn
  have hCD := Lib.hid CD
  have hhl := Lib.hid hh8
  clear CD hl8 hh8
  have wl : wrap64 (20 + (body.length : Int)) = 20 + (body.length : Int) := by unfold wrap64; omega
  have wq : wrap64 h.len = h.len := by unfold wrap64; omega
  have q0 : Blk (w.alloc (.cells #[.int .u16 h.age, .int .u8 h.opts, .int .u8 h.type, .int .u32 h.id, .int .u32 h.adv, .int .i32 h.seq, .int .u16 h.sum, .int .u16 h.len, .slice A body.length c] 54)) w.heap.size 54 #[.int .u16 h.age, .int .u8 h.opts, .int .u8 h.type, .int .u32 h.id, .int .u32 h.adv, .int .i32 h.seq, .int .u16 h.sum, .int .u16 h.len, .slice A body.length c] := Blk.new _ _ _
  have qB : Below w.heap.size w (w.alloc (.cells #[.int .u16 h.age, .int .u8 h.opts, .int .u8 h.type, .int .u32 h.id, .int .u32 h.adv, .int .i32 h.seq, .int .u16 h.sum, .int .u16 h.len, .slice A body.length c] 54)) := (Below.refl _ _).alloc (Nat.le_refl _) _
  by_cases h1 : h.len = 20 + (body.length : Int)
  · have e1 : (h.len != 20 + (body.length : Int)) = false := by simp [h1]
    rw [if_neg (by simp [h1])] at hP
    have hl1 := Lib.hid h1
    clear h1
    by_cases h2 : h.sum = 0
    · have e2 : (h.sum == 0) = true := by simp [h2]
      rw [if_pos (.inl h2)] at hP
      subst hP
      clear h2
      go_enter Tryz.func131, Tryz.ntmps131
      go_wp2
      go_ret
      exact ⟨rfl, qB⟩
    · have e2 : (h.sum == 0) = false := by simp [h2]
      have hb1 := hb0.below (qB.mono hB)
      have hz1 := qB.size
      go_enter Tryz.func131, Tryz.ntmps131
      have CB := Lib.hid (CW.out _ hb1 (Nat.le_trans hB hz1))
      cases hwh : wholeB (L.drop 2)
      · rw [if_pos (.inr hwh)] at hP
        subst hP
        go_wp2_with (first
          | (go_at_call 156; refine Calls.mono CB.out ?_; rintro x w2 ⟨v, rfl, ho2, k2⟩; obtain ⟨-, Ab, cb, rfl, hcc, -⟩ := Sl.of_own ho2; obtain ⟨v2, hd0, hd2⟩ := drop_ex u8T Ab L.length cb 2 (by have := hLn.out; omega) hcc; have hd : ∀ W, (Instr.sliceAt 52 (.slice Ab L.length cb) (some (.int .i64 2)) none none).run Tryz.prog W = .ok v2 W := hd0; clear hd0; have hs2 := hd2 _ _ _ (Sl.of_own ho2); have CC := Lib.hid (whole8_any _ v2 (L.drop 2) w2 (by rw [List.length_drop, List.map_drop]; simpa using hs2) (Nat.le_refl _) hhl.out (by have := hLn.out; rw [List.length_drop]; omega)); clear hs2; rw [hwh] at CC)
          | (go_at_call 155; with_reducible refine Calls.mono CC.out ?_; rintro x w3 ⟨rfl, k3⟩))
        go_ret
        exact ⟨rfl, (qB.trans (k2.mono hz1)).trans (k3.mono (Nat.le_trans hz1 k2.size))⟩
      · rw [if_neg (by simp [h2, hwh])] at hP
        go_upto_region 5 with (first
          | (go_at_call 156; refine Calls.mono CB.out ?_; rintro x w2 ⟨v, rfl, ho2, k2⟩; obtain ⟨-, Ab, cb, rfl, hcc, -⟩ := Sl.of_own ho2; obtain ⟨v2, hd0, hd2⟩ := drop_ex u8T Ab L.length cb 2 (by have := hLn.out; omega) hcc; have hd : ∀ W, (Instr.sliceAt 52 (.slice Ab L.length cb) (some (.int .i64 2)) none none).run Tryz.prog W = .ok v2 W := hd0; clear hd0; have hs2 := hd2 _ _ _ (Sl.of_own ho2); have CC := Lib.hid (whole8_any _ v2 (L.drop 2) w2 (by rw [List.length_drop, List.map_drop]; simpa using hs2) (Nat.le_refl _) hhl.out (by have := hLn.out; rw [List.length_drop]; omega)); clear hs2; rw [hwh] at CC)
          | (go_at_call 155; with_reducible refine Calls.mono CC.out ?_; rintro x w3 ⟨rfl, k3⟩))
        have q3 : Blk w3 w.heap.size 54 #[.int .u16 h.age, .int .u8 h.opts, .int .u8 h.type, .int .u32 h.id, .int .u32 h.adv, .int .i32 h.seq, .int .u16 h.sum, .int .u16 h.len, .slice A body.length c] := (q0.below k2 q0.lt).below k3 (q0.below k2 q0.lt).lt
        have B3 : Below w.heap.size w w3 := (qB.trans (k2.mono hz1)).trans (k3.mono (Nat.le_trans hz1 k2.size))
        have CE := Lib.hid (hCD.out w3 (hb0.below (B3.mono hB)) (Nat.le_trans hB B3.size) hl1.out)
        clear CC CB hd hd2 ho2 k2 k3 hb1 qB hCD CW q0 hcc
        have hz3 := q3.lt
        go_upto_region 6 with (first
          | (refine wpList_load_row rfl 54 (.tmp 1) rfl w.heap.size rfl 54 #[.int .u16 h.age, .int .u8 h.opts, .int .u8 h.type, .int .u32 h.id, .int .u32 h.adv, .int .i32 h.seq, .int .u16 h.sum, .int .u16 h.len, .slice A body.length c] (0, 0) _ q3 Tryz.underlying54 rfl (by kernel_rfl) ?_)
          | (go_at_call 62; refine Calls.mono CE.out ?_; rintro x w4 ⟨rfl, k4⟩))
        have q4 := q3.below k4 q3.lt
        have hz4 := q4.lt
        have B5 : Below w.heap.size w (w4.alloc (.cells #[.int .u8 fl, .slice A1 n1 c1, .int .u32 m, .slice A2 n2 c2, .int .u32 k, .bool t2, .int .u32 fw, .int .u32 tg, .slice A3 n3 c3] 93)) := below_alloc (B3.trans (k4.mono B3.size)) (Nat.le_refl _) _
        have q5 := q4.alloc (.cells #[.int .u8 fl, .slice A1 n1 c1, .int .u32 m, .slice A2 n2 c2, .int .u32 k, .bool t2, .int .u32 fw, .int .u32 tg, .slice A3 n3 c3] 93)
        generalize w4.alloc (.cells #[.int .u8 fl, .slice A1 n1 c1, .int .u32 m, .slice A2 n2 c2, .int .u32 k, .bool t2, .int .u32 fw, .int .u32 tg, .slice A3 n3 c3] 93) = w5 at q5 B5 ⊢
        have x0 := q5.cell 0
        have x5 := q5.cell 5
        simp only [List.getElem?_toArray, List.getElem?_cons_zero, List.getElem?_cons_succ] at x0 x5
        clear q3 q4 CE k4 B3 q5
        by_cases he : e = 21
        · have e3 : (e != 21) = false := by simp [he]
          rw [if_neg (by simp [he])] at hP
          subst hP
          clear he
          go_wp2
          go_ret
          exact ⟨rfl, B5⟩
        · have e3 : (e != 21) = true := by simp [he]
          by_cases hs : h.seq = -2147483648
          · have e4 : (h.seq == -2147483648) = true := by simp [hs]
            rw [if_pos ⟨he, .inl hs⟩] at hP
            subst hP
            clear he hs
            go_wp2
            go_ret
            exact ⟨rfl, B5⟩
          · have e4 : (h.seq == -2147483648) = false := by simp [hs]
            rw [show ageP h.age = bits BinOp.andNot IntKind.u16 h.age 32768 from rfl] at hP
            by_cases ha : 3600 < bits BinOp.andNot IntKind.u16 h.age 32768
            · rw [if_pos ⟨he, .inr ha⟩] at hP
              subst hP
              have e5 := decide_eq_true ha
              clear he hs
              go_wp2
              go_ret
              exact ⟨rfl, B5⟩
            · rw [if_neg (by simp [hs, ha])] at hP
              subst hP
              have e5 := decide_eq_false ha
              clear he hs
              go_wp2
              go_ret
              exact ⟨rfl, B5⟩
  · have e1 : (h.len != 20 + (body.length : Int)) = true := by simp [h1]
    rw [if_pos h1] at hP
    subst hP
    clear h1
    go_enter Tryz.func131, Tryz.ntmps131
    go_wp2
    go_ret
    exact ⟨rfl, qB⟩
end Go.Proofs.YtiikagabdiphkaaGreat
