/- Where a summary leads. -/
import Derived.Test.YtiikagabdiphkaaGreatMo
import Derived.Test.YtiikagabdiphkaaGreatMdm
import Derived.Test.YtiikagabdiphkaaGreatMk
namespace Go.Proofs.YtiikagabdiphkaaGreat
open Go.RowKit Go.Lo

/-- a way and its hops, as numbers -/
abbrev WayG := WayN × List Hop
/-- is a state looked at? -/
def takes (h : OHead) (body : List Int) (self : Int) (t : Nat) : Bool := h.type == (t : Int) && (h.adv != self && (!oldP h.age && chkP h body (decP t body).2.2 == 0))
def leadT (h : OHead) (body : List Int) (self : Int) (R : List WayG) (t : Nat) : Option WayG :=
  if takes h body self t = false then none else
  match R.find? (fun r => ofP h.adv r.1) with
  | none => none
  | some r =>
    if 16777215 ≤ (decP t body).2.1 ∨ 4294967296 ≤ r.1.cost + (decP t body).2.1 then none
    else if t = 4 then (if h.id = 0 then none else some (⟨0, 0, h.id, 2, 2, 0, r.1.cost + (decP t body).2.1, 0, 0⟩, r.2))
    else some (⟨bits BinOp.and IntKind.u32 h.id (decP t body).1, bitsV (decP t body).1, 0, 0, 2, 0, r.1.cost + (decP t body).2.1, 0, 0⟩, r.2)
/-- where a summary leads -/
def leadP (h : OHead) (body : List Int) (self : Int) (R : List WayG) : Option WayG :=
  if h.type = 3 then leadT h body self R 3 else if h.type = 4 then leadT h body self R 4 else none

/-- the ways lie in memory, and their hops -/
structure WaysIn (w : World) (B : Nat) (lv : Value) (R : List WayG) (l : List WayV) : Prop where
  sl : Sl w B 10 lv l.length (l.flatMap wayL)
  map : l.map (·.n) = R.map (·.1)
  hops : ∀ k (h : k < l.length) (h2 : k < R.length), Sl w B 3 (.slice l[k].A l[k].len l[k].cap) R[k].2.length (R[k].2.flatMap hopCells)
theorem WaysIn.len {w : World} {B : Nat} {lv : Value} {R : List WayG} {l : List WayV} (h : WaysIn w B lv R l) : l.length = R.length := by
  have := congrArg List.length h.map
  simpa using this
theorem WaysIn.below {w w' : World} {B : Nat} {lv : Value} {R : List WayG} {l : List WayV} (h : WaysIn w B lv R l) (hb : Below B w w') : WaysIn w' B lv R l := ⟨h.sl.below hb, h.map, fun k h1 h2 => (h.hops k h1 h2).below hb⟩
theorem WaysIn.n {w : World} {B : Nat} {lv : Value} {R : List WayG} {l : List WayV} (h : WaysIn w B lv R l) (k : Nat) (_h1 : k < l.length) (_h2 : k < R.length) : l[k].n = R[k].1 := by
  have := congrArg (fun z => z[k]?) h.map
  simpa [_h1, _h2] using this

theorem find_idx (adv : Int) (R : List WayG) (l : List WayV) (hm : l.map (·.n) = R.map (·.1)) :
    (R.find? (fun r => ofP adv r.1) = none ∧ idxP adv l = -1) ∨ ∃ k, k < l.length ∧ ∃ h2 : k < R.length, R.find? (fun r => ofP adv r.1) = some R[k] ∧ idxP adv l = (k : Int) := by
  have hlen : l.length = R.length := by simpa using congrArg List.length hm
  have hn : ∀ k (h1 : k < l.length) (h2 : k < R.length), l[k].n = R[k].1 := fun k h1 h2 => by
    have := congrArg (fun z => z[k]?) hm
    simpa [h1, h2] using this
  unfold idxP
  cases hf : l.findIdx? (fun x => ofP adv x.n) with
  | none =>
    refine .inl ⟨List.find?_eq_none.2 fun r hr => ?_, rfl⟩
    obtain ⟨k, hk, rfl⟩ := List.getElem_of_mem hr
    have h1 : k < l.length := by omega
    have := List.findIdx?_eq_none_iff.1 hf l[k] (List.getElem_mem h1)
    rw [hn k h1 hk] at this
    simp [this]
  | some k =>
    obtain ⟨h1, h2, h3⟩ := List.findIdx?_eq_some_iff_getElem.1 hf
    refine .inr ⟨k, h1, by omega, List.find?_eq_some_iff_getElem.2 ⟨by rw [← hn k h1 (by omega)]; exact h2, k, by omega, rfl, fun j hj => ?_⟩, rfl⟩
    have := h3 j hj
    rw [hn j (by omega) (by omega)] at this
    simpa using this

theorem chk_len {h : OHead} {body : List Int} {e : Int} (hc : chkP h body e = 0) : h.len = 20 + (body.length : Int) := by
  unfold chkP at hc
  by_cases h1 : h.len ≠ 20 + (body.length : Int)
  · rw [if_pos h1] at hc
    cases hc
  · simpa using h1

theorem sl_len {w : World} {B s n c m : Nat} {A : Option Addr} {xs : List Value} (h : Sl w B s (.slice A n c) m xs) : n = m := by
  obtain ⟨-, A7, c7, h7, -⟩ := h
  injection h7
theorem own_base {w : World} {base B : Nat} {e : TypeId} {s n : Nat} {v : Value} {xs : List Value} (h : w.ownsRow base e s v n xs) (hB : B ≤ base) : w.ownsRow B e s v n xs := by
  refine ⟨h.1, ?_⟩
  rcases h.2 with h1 | ⟨g, cap, cur, h1, h2, h3⟩
  · exact .inl h1
  · exact .inr ⟨g, cap, cur, h1, by omega, h3⟩
theorem own_ne {w : World} {base : Nat} {e : TypeId} {s n : Nat} {v : Value} {xs : List Value} (h : w.ownsRow base e s v n xs) {g : Nat} {t : TypeId} {cs : Array Value} (hb : Blk w g t cs) (hne : t ≠ e) : ∀ k, v.ownBlock = some k → k ≠ g := by
  intro k hk hc
  subst hc
  rcases h.2 with h' | ⟨g', cap, cur, rfl, _, hh, _⟩
  · rw [h'.1] at hk
    cases hk
  · obtain rfl : g' = k := Option.some.inj hk
    have h4 := hb.symm.trans hh
    simp only [Option.some.injEq, Obj.cells.injEq] at h4
    exact hne h4.2.1

theorem blk_loadAt {P : Program} {w : World} {g : Nat} {t ty : TypeId} {cs : Array Value} {d : TypeDesc} {n : Nat} (h : Blk w g t cs) (hu : P.underlying ty = some d) (hd : (match d with | .struct _ | .array _ _ => true | _ => false) = true) (hi : (P.info? ty).map (·.size) = some n) (hn : cs.size = n := by rfl) :
    (Instr.loadAt ty (.pointer (some ⟨g, 0, none⟩))).run P w = .ok (.agg cs) w := by
  simp only [Instr.loadAt, Instr.sureAddr, Sem.run_bind, Sem.run_pure, Result.andThen_ok, run_loadVar_row w g t ty cs (0, 0) d h hu hd (by rw [hi, hn])]
theorem blk_storeAt {P : Program} {w : World} {g : Nat} {t ty : TypeId} {old cells : Array Value} (h : Blk w g t old) (hi : (P.info? ty).map (·.size) = some cells.size) (hold : old.size = cells.size) (h1 : cells.all (·.oneCell') = true) :
    (Instr.storeAt ty (.pointer (some ⟨g, 0, none⟩)) (.agg cells)).run P w = .ok () (w.setRow g cells) := by
  simp only [Instr.storeAt, Instr.sureAddr, Sem.run_bind, Sem.run_pure, Result.andThen_ok, run_storeVar_row w g t ty old cells h hi hold h1]

/-- what lead leaves: a way with its hops, or nothing -/
def LeadPost (w : World) (g : Option WayG) (e : Ending) (w' : World) : Prop :=
  ∃ (n : WayN) (A : Option Addr) (ln c : Nat) (q : Bool), e = .returned (.tuple #[.agg (wayC n (.slice A ln c)), .bool q]) ∧ Below w.heap.size w w' ∧ (q = false → g = none) ∧ (q = true → ∃ hops, g = some (n, hops) ∧ w'.ownsRow w.heap.size 47 3 (.slice A ln c) hops.length (hops.flatMap hopCells))

set_option maxRecDepth 100000 in
set_option maxHeartbeats 4000000 in
theorem lead_any (h : OHead) (ok : HeadOk h) (B : Nat) (bv : Value) (body : List Int) (self : Int) (lv : Value) (R : List WayG) (l : List WayV) (w : World) (hb : Sl w B 1 bv body.length (body.map u8c)) (hn : body.length ≤ 1099511627776) (hl8 : ∀ x ∈ body, 0 ≤ x ∧ x < 256)
    (hW : WaysIn w B lv R l) (hB : B ≤ w.heap.size) (hcost : ∀ r ∈ R, 0 ≤ r.1.cost ∧ r.1.cost < 4294967296) (hhn : ∀ r ∈ R, r.2.length ≤ 1000000) (hln : l.length ≤ 1000000) :
    Calls Tryz.prog 96 #[stateVal h bv, .int .u32 self, lv] w (LeadPost w (leadP h body self R)) := by
  obtain ⟨G, hG⟩ : ∃ G, G = leadP h body self R := ⟨_, rfl⟩
  rw [← hG]
  have CC : ∀ t : Nat, (t = 3 ∨ t = 4) → h.type = t → ∀ W, Below w.heap.size w W → Calls Tryz.prog 131 #[stateVal h bv] W fun x w' => x = .returned (.int .i64 (chkP h body (decP t body).2.2)) ∧ Below W.heap.size W w' := fun t ht hty W hWb =>
    check_any h ok B bv body W (hb.below (hWb.mono hB)) (Nat.le_trans hB hWb.size) hn hl8 (decP t body).2.2 0 none 0 0 (decP t body).1 none 0 0 (decP t body).2.1 false 0 0 none 0 0
      (fun W2 hs hBW hlen => decode_ok t ht h B bv body W2 hs hBW hn hl8 hty hlen)
  have CD : ∀ t : Nat, (t = 3 ∨ t = 4) → h.type = t → h.len = 20 + (body.length : Int) → ∀ W, Below w.heap.size w W → Calls Tryz.prog 62 #[stateVal h bv] W fun x w' => x = .returned (.tuple #[.agg (sumC (decP t body).1 (decP t body).2.1), .int .i64 (decP t body).2.2]) ∧ Below W.heap.size W w' := fun t ht hty hlen W hWb =>
    decode_ok t ht h B bv body W (hb.below (hWb.mono hB)) (Nat.le_trans hB hWb.size) hn hl8 hty hlen
  have hrange : ∀ t : Nat, 0 ≤ (decP t body).2.1 ∧ (decP t body).2.1 < 4294967296 := fun t => by
    have hk := decS_k body
    unfold decP
    simp only
    split
    · exact ⟨by decide, by decide⟩
    · split
      · exact ⟨by decide, by decide⟩
      · split
        · exact ⟨by decide, by decide⟩
        · exact hk
  obtain ⟨age, opts, type, id, adv, seq, sum, len⟩ := h
  obtain ⟨rej, hrej⟩ : ∃ rej : Bool, rej = !(takes ⟨age, opts, type, id, adv, seq, sum, len⟩ body self 3 || takes ⟨age, opts, type, id, adv, seq, sum, len⟩ body self 4) := ⟨_, rfl⟩
  obtain ⟨hsl, hmap, hhops⟩ := hW
  have hsl2 := hsl
  obtain ⟨-, lA, lc, rfl, -⟩ := hsl2
  dsimp only [stateVal] at CC CD ⊢
  have k0 : Blk ((w.alloc (.cells #[.int .u16 age, .int .u8 opts, .int .u8 type, .int .u32 id, .int .u32 adv, .int .i32 seq, .int .u16 sum, .int .u16 len, bv] 54)).alloc (.cells #[.int .u32 0, .int .u8 0, .int .u32 0, .int .u8 0, .int .u8 0, .int .u32 0, .int .u32 0, .int .u32 0, .int .u32 0, .slice none 0 0] 38)) w.heap.size 54 #[.int .u16 age, .int .u8 opts, .int .u8 type, .int .u32 id, .int .u32 adv, .int .i32 seq, .int .u16 sum, .int .u16 len, bv] := (Blk.new _ _ _).alloc _
  have k1 : Blk ((w.alloc (.cells #[.int .u16 age, .int .u8 opts, .int .u8 type, .int .u32 id, .int .u32 adv, .int .i32 seq, .int .u16 sum, .int .u16 len, bv] 54)).alloc (.cells #[.int .u32 0, .int .u8 0, .int .u32 0, .int .u8 0, .int .u8 0, .int .u32 0, .int .u32 0, .int .u32 0, .int .u32 0, .slice none 0 0] 38)) (w.heap.size + 1) 38 #[.int .u32 0, .int .u8 0, .int .u32 0, .int .u8 0, .int .u8 0, .int .u32 0, .int .u32 0, .int .u32 0, .int .u32 0, .slice none 0 0] := heap_alloc2_new w _ _
  have kB : Below w.heap.size w ((w.alloc (.cells #[.int .u16 age, .int .u8 opts, .int .u8 type, .int .u32 id, .int .u32 adv, .int .i32 seq, .int .u16 sum, .int .u16 len, bv] 54)).alloc (.cells #[.int .u32 0, .int .u8 0, .int .u32 0, .int .u8 0, .int .u8 0, .int .u32 0, .int .u32 0, .int .u32 0, .int .u32 0, .slice none 0 0] 38)) := ((Below.refl _ _).alloc (Nat.le_refl _) _).alloc (by simp) _
  have hIdx := fun (W : World) (hWb : Below w.heap.size w W) (hc : W.cell? ⟨w.heap.size, 4, none⟩ = some (.int .u32 adv)) (hlt : w.heap.size < W.heap.size) => index_any adv l (.slice lA l.length lc) B w.heap.size W (hsl.below (hWb.mono hB)) (Nat.le_trans hB hWb.size) hc hlt hln
  have hfi := find_idx adv R l hmap
  have hlenR : l.length = R.length := by simpa using congrArg List.length hmap
  have hnn : ∀ k (h1 : k < l.length) (h2 : k < R.length), l[k].n = R[k].1 := fun k h1 h2 => by
    have := congrArg (fun z => z[k]?) hmap
    simpa [h1, h2] using this
  replace CC := Lib.hid CC
  replace CD := Lib.hid CD
  replace hIdx := Lib.hid hIdx
  replace hG := Lib.hid hG
  replace hrej := Lib.hid hrej
  replace hcost := Lib.hid hcost
  replace hhn := Lib.hid hhn
  replace hrange := Lib.hid hrange
  replace hhops := Lib.hid hhops
  replace hfi := Lib.hid hfi
  replace hnn := Lib.hid hnn
  replace hlenR := Lib.hid hlenR
  clear ok hb hn hl8 hmap
  go_enter Tryz.func96, Tryz.ntmps96
  go_upto_region 1 with fail
  generalize (w.alloc (.cells #[.int .u16 age, .int .u8 opts, .int .u8 type, .int .u32 id, .int .u32 adv, .int .i32 seq, .int .u16 sum, .int .u16 len, bv] 54)).alloc (.cells #[.int .u32 0, .int .u8 0, .int .u32 0, .int .u8 0, .int .u8 0, .int .u32 0, .int .u32 0, .int .u32 0, .int .u32 0, .slice none 0 0] 38) = w1 at k0 k1 kB ⊢
  have hz1 := k1.lt
  go_cut [42] (fun v wx => v = .bool rej ∧ Below w1.heap.size w1 wx)
  case first =>
    have x0 := k0.cell 0
    have x1 := k0.cell 1
    have x2 := k0.cell 2
    have x3 := k0.cell 3
    have x4 := k0.cell 4
    have x5 := k0.cell 5
    have x6 := k0.cell 6
    have x7 := k0.cell 7
    have x8 := k0.cell 8
    simp only [List.getElem?_toArray, List.getElem?_cons_zero, List.getElem?_cons_succ] at x0 x1 x2 x3 x4 x5 x6 x7 x8
    by_cases h3 : type = 3 ∨ type = 4
    · by_cases ha : adv = self
      · subst ha
        have hr : rej = true := by rw [hrej.out]; simp [takes]
        clear hrej
        rcases h3 with rfl | rfl
        all_goals
          go_wp2_with fail
          go_meet
          case rel => exact ⟨by rw [hr], Below.refl _ _⟩
      · have ha1 : (adv == self) = false := by simp [ha]
        have ha2 : decide (adv = self) = false := decide_eq_false ha
        cases ho : oldP age with
        | true =>
          have hr : rej = true := by rw [hrej.out]; simp [takes, ho]
          clear hrej
          replace ho := Lib.hid ho
          rcases h3 with rfl | rfl
          all_goals
            go_wp2_with (go_at_call 130; refine Calls.mono (old_any age _) ?_; rintro x w2 ⟨rfl, rfl⟩; rw [ho.out])
            go_meet
            case rel => exact ⟨by rw [hr], Below.refl _ _⟩
        | false =>
          rcases h3 with rfl | rfl
          · have C := CC.out 3 (by simp) rfl w1 (kB.mono (Nat.le_refl _))
            have hr : rej = (chkP ⟨age, opts, 3, id, adv, seq, sum, len⟩ body (decP 3 body).2.2 != 0) := by
              rw [hrej.out]
              simp only [takes, ho, bne, ha1]
              cases (chkP ⟨age, opts, 3, id, adv, seq, sum, len⟩ body (decP 3 body).2.2 == 0) <;> simp
            generalize chkP ⟨age, opts, 3, id, adv, seq, sum, len⟩ body (decP 3 body).2.2 = e at C hr
            clear hrej
            replace ho := Lib.hid ho
            replace C := Lib.hid C
            replace hr := Lib.hid hr
            by_cases he : e = 0
            · subst he
              go_wp2_with (first
                | (go_at_call 130; refine Calls.mono (old_any age _) ?_; rintro x w2 ⟨rfl, rfl⟩; rw [ho.out])
                | (go_at_call 131; refine Calls.mono C.out ?_; rintro x w3 ⟨rfl, hB3⟩))
              go_meet
              case rel => exact ⟨by rw [hr.out]; rfl, hB3⟩
            · have he1 : (e == 0) = false := by simp [he]
              have he2 : (e != 0) = true := by simp [he]
              go_wp2_with (first
                | (go_at_call 130; refine Calls.mono (old_any age _) ?_; rintro x w2 ⟨rfl, rfl⟩; rw [ho.out])
                | (go_at_call 131; refine Calls.mono C.out ?_; rintro x w3 ⟨rfl, hB3⟩))
              go_meet
              case rel => exact ⟨by rw [hr.out]; simp [he], hB3⟩
          · have C := CC.out 4 (by simp) rfl w1 (kB.mono (Nat.le_refl _))
            have hr : rej = (chkP ⟨age, opts, 4, id, adv, seq, sum, len⟩ body (decP 4 body).2.2 != 0) := by
              rw [hrej.out]
              simp only [takes, ho, bne, ha1]
              cases (chkP ⟨age, opts, 4, id, adv, seq, sum, len⟩ body (decP 4 body).2.2 == 0) <;> simp
            generalize chkP ⟨age, opts, 4, id, adv, seq, sum, len⟩ body (decP 4 body).2.2 = e at C hr
            clear hrej
            replace ho := Lib.hid ho
            replace C := Lib.hid C
            replace hr := Lib.hid hr
            by_cases he : e = 0
            · subst he
              go_wp2_with (first
                | (go_at_call 130; refine Calls.mono (old_any age _) ?_; rintro x w2 ⟨rfl, rfl⟩; rw [ho.out])
                | (go_at_call 131; refine Calls.mono C.out ?_; rintro x w3 ⟨rfl, hB3⟩))
              go_meet
              case rel => exact ⟨by rw [hr.out]; rfl, hB3⟩
            · have he1 : (e == 0) = false := by simp [he]
              have he2 : (e != 0) = true := by simp [he]
              go_wp2_with (first
                | (go_at_call 130; refine Calls.mono (old_any age _) ?_; rintro x w2 ⟨rfl, rfl⟩; rw [ho.out])
                | (go_at_call 131; refine Calls.mono C.out ?_; rintro x w3 ⟨rfl, hB3⟩))
              go_meet
              case rel => exact ⟨by rw [hr.out]; simp [he], hB3⟩
    · have h3a : type ≠ 3 := fun hc => h3 (.inl hc)
      have h4a : type ≠ 4 := fun hc => h3 (.inr hc)
      have h3b : (type == 3) = false := by simp [h3a]
      have h4b : (type == 4) = false := by simp [h4a]
      have hr : rej = true := by rw [hrej.out]; simp [takes, h3a, h4a]
      clear hrej
      go_wp2_with fail
      go_meet
      case rel => exact ⟨by rw [hr], Below.refl _ _⟩
  case rest =>
    obtain ⟨rfl, hB2⟩ := hcut
    obtain ⟨w2, rfl⟩ : ∃ x : World, x = wc := ⟨_, rfl⟩
    replace k0 := k0.below hB2 k0.lt
    replace k1 := k1.below hB2 k1.lt
    have hBw := kB.trans (hB2.mono kB.size)
    have hz2 := k1.lt
    clear hB2 kB hz1
    cases rej with
    | true =>
      have hGn : G = none := by
        have hr := hrej.out.symm
        simp only [Bool.not_eq_true', Bool.or_eq_false_iff] at hr
        rw [hG.out]
        unfold leadP leadT
        split
        · rw [if_pos hr.1]
        · split
          · rw [if_pos hr.2]
          · rfl
      go_wp2_with (refine wpList_store_row rfl 38 (.tmp 6) _ rfl (w.heap.size + 1) #[.int .u32 0, .int .u8 0, .int .u32 0, .int .u8 0, .int .u8 0, .int .u32 0, .int .u32 0, .int .u32 0, .int .u32 0, .slice none 0 0] rfl rfl 38 #[.int .u32 0, .int .u8 0, .int .u32 0, .int .u8 0, .int .u8 0, .int .u32 0, .int .u32 0, .int .u32 0, .int .u32 0, .slice none 0 0] k1 (by kernel_rfl) rfl (by simp [Value.oneCell']) ?_)
      refine bodyPost_ret (results_cell_tmp_row rfl _ _ (w.heap.size + 1) 38 #[.int .u32 0, .int .u8 0, .int .u32 0, .int .u8 0, .int .u8 0, .int .u32 0, .int .u32 0, .int .u32 0, .int .u32 0, .slice none 0 0] (0, 0) _ rfl (blk_setRow k1) Tryz.underlying38 rfl (by kernel_rfl)) rfl ?_
      exact ⟨zeroN, none, 0, 0, false, rfl, below_setRow (hBw.mono (Nat.le_refl _)) (by omega) _, fun _ => (by first | exact hGn | rfl), fun h => by cases h⟩
    | false =>
      obtain ⟨t, ht, hty, htk⟩ : ∃ t : Nat, (t = 3 ∨ t = 4) ∧ type = t ∧ takes ⟨age, opts, type, id, adv, seq, sum, len⟩ body self t = true := by
        have hr := hrej.out.symm
        simp only [Bool.not_eq_false', Bool.or_eq_true] at hr
        rcases hr with hr | hr
        · exact ⟨3, .inl rfl, by simp [takes] at hr; exact hr.1, hr⟩
        · exact ⟨4, .inr rfl, by simp [takes] at hr; exact hr.1, hr⟩
      subst hty
      have hlen : len = 20 + (body.length : Int) := by
        simp only [takes, Bool.and_eq_true, beq_iff_eq] at htk
        exact chk_len (h := ⟨age, opts, (t : Int), id, adv, seq, sum, len⟩) htk.2.2.2
      have hG2 : G = leadT ⟨age, opts, (t : Int), id, adv, seq, sum, len⟩ body self R t := by
        rw [hG.out]
        unfold leadP
        rcases ht with rfl | rfl
        · rfl
        · rfl
      unfold leadT at hG2
      rw [htk, if_neg (by simp)] at hG2
      have C := CD.out t ht rfl hlen w2 hBw
      have hkr := hrange.out t
      generalize (decP t body).1 = m at *
      generalize (decP t body).2.1 = kk at *
      generalize (decP t body).2.2 = er at *
      replace hG2 := Lib.hid hG2
      replace C := Lib.hid C
      clear hG hrej CC CD hrange htk hlen
      go_upto_region 4 with (first
        | (refine wpList_load_row rfl 54 (.tmp 3) rfl w.heap.size rfl 54 _ (0, 0) _ k0 Tryz.underlying54 rfl (by kernel_rfl) ?_)
        | (go_at_call 62; refine Calls.mono C.out ?_; rintro x w3 ⟨rfl, hB3⟩))
      have hz3 := hB3.size
      have kb := Blk.new w3 93 #[.int .u8 0, .slice none 0 0, .int .u32 m, .slice none 0 0, .int .u32 kk, .bool false, .int .u32 0, .int .u32 0, .slice none 0 0]
      replace k0 := (k0.below hB3 k0.lt).alloc (.cells #[.int .u8 0, .slice none 0 0, .int .u32 m, .slice none 0 0, .int .u32 kk, .bool false, .int .u32 0, .int .u32 0, .slice none 0 0] 93)
      replace k1 := (k1.below hB3 k1.lt).alloc (.cells #[.int .u8 0, .slice none 0 0, .int .u32 m, .slice none 0 0, .int .u32 kk, .bool false, .int .u32 0, .int .u32 0, .slice none 0 0] 93)
      replace hBw := below_alloc (hBw.trans (hB3.mono hBw.size)) (Nat.le_refl _) (.cells #[.int .u8 0, .slice none 0 0, .int .u32 m, .slice none 0 0, .int .u32 kk, .bool false, .int .u32 0, .int .u32 0, .slice none 0 0] 93)
      clear C hB3
      generalize w3.alloc (.cells #[.int .u8 0, .slice none 0 0, .int .u32 m, .slice none 0 0, .int .u32 kk, .bool false, .int .u32 0, .int .u32 0, .slice none 0 0] 93) = w4 at k0 k1 hBw kb ⊢
      generalize w3.heap.size = gb at kb hz3 ⊢
      have hw1 : w.heap.size + 1 < gb := by omega
      have c4 := k0.cell 4
      simp only [List.getElem?_toArray, List.getElem?_cons_zero, List.getElem?_cons_succ] at c4
      have CI := hIdx.out w4 hBw c4 k0.lt
      have hz4 := kb.lt
      rcases hfi.out with ⟨hf1, hf2⟩ | ⟨at_, hk1, hk2, hf1, hf2⟩
      · rw [hf2] at CI
        have hGn : G = none := by
          have := hG2.out
          rw [hf1] at this
          exact this
        replace CI := Lib.hid CI
        clear hG2 hIdx hf1 hf2 hfi c4
        go_upto_if 58 with (go_at_call 137; refine Calls.mono CI.out ?_; rintro x w5 ⟨rfl, hB5⟩)
        replace hBw := hBw.trans (hB5.mono hBw.size)
        replace k1 := k1.below hB5 k1.lt
        go_wp2_with (refine wpList_store_row rfl 38 (.tmp 6) _ rfl (w.heap.size + 1) #[.int .u32 0, .int .u8 0, .int .u32 0, .int .u8 0, .int .u8 0, .int .u32 0, .int .u32 0, .int .u32 0, .int .u32 0, .slice none 0 0] rfl rfl 38 #[.int .u32 0, .int .u8 0, .int .u32 0, .int .u8 0, .int .u8 0, .int .u32 0, .int .u32 0, .int .u32 0, .int .u32 0, .slice none 0 0] k1 (by kernel_rfl) rfl (by simp [Value.oneCell']) ?_)
        refine bodyPost_ret (results_cell_tmp_row rfl _ _ (w.heap.size + 1) 38 #[.int .u32 0, .int .u8 0, .int .u32 0, .int .u8 0, .int .u8 0, .int .u32 0, .int .u32 0, .int .u32 0, .int .u32 0, .slice none 0 0] (0, 0) _ rfl (blk_setRow k1) Tryz.underlying38 rfl (by kernel_rfl)) rfl ?_
        exact ⟨zeroN, none, 0, 0, false, rfl, below_setRow (hBw.mono (Nat.le_refl _)) (by omega) _, fun _ => (by first | exact hGn | rfl), fun h => by cases h⟩

      · rw [hf2] at CI
        have hG3 := hG2.out
        rw [hf1] at hG3
        have hrn := hnn.out at_ hk1 hk2
        have hho := hhops.out at_ hk1 hk2
        have hco := hcost.out _ (List.getElem_mem hk2)
        have hhl := hhn.out _ (List.getElem_mem hk2)
        obtain ⟨bl, off, hlA, hblB, -⟩ := Sl.row wayL_len hsl hk1
        generalize R[at_] = r at *
        obtain ⟨⟨x0, x1, x2, x3, x4, x5, x6, x7, x8⟩, hops⟩ := r
        subst hlA
        have hrow : ∀ W, Below B w W → ∀ j u, (wayL l[at_])[j]? = some u → W.cell? ⟨bl, off + at_ * 10 + j, none⟩ = some u := fun W hWb j u hu => by
          obtain ⟨b2, o2, e2, -, h2⟩ := Sl.row wayL_len (hsl.below hWb) hk1
          simp only [Option.some.injEq, Addr.mk.injEq, and_true] at e2
          obtain ⟨rfl, rfl⟩ := e2
          exact h2 j u hu
        obtain ⟨x, hx⟩ : ∃ x, x = l[at_] := ⟨_, rfl⟩
        rw [← hx] at hrow hrn hho
        obtain ⟨xn, xA, xl, xc⟩ := x
        simp only at hrn
        subst hrn
        obtain rfl : xl = hops.length := sl_len hho
        dsimp only at hco hhl hho hG3
        have hik : (at_ : Int) < (l.length : Int) := by omega
        replace CI := Lib.hid CI
        replace hG3 := Lib.hid hG3
        replace hrow := Lib.hid hrow
        clear hG2 hIdx hf1 hf2 hfi c4 hx hnn hhops hcost hhn hsl hlenR
        go_upto_region 5 with (go_at_call 137; refine Calls.mono CI.out ?_; rintro x w5 ⟨rfl, hB5⟩)
        replace hBw := hBw.trans (hB5.mono hBw.size)
        replace k0 := k0.below hB5 k0.lt
        replace k1 := k1.below hB5 k1.lt
        replace kb := kb.below hB5 kb.lt
        have hz5 := kb.lt
        clear CI hB5
        have y4 := kb.cell 4
        simp only [List.getElem?_toArray, List.getElem?_cons_zero, List.getElem?_cons_succ] at y4
        by_cases hinf : 16777215 ≤ kk
        · have hGn : G = none := by
            have := hG3.out
            rw [if_pos (.inl hinf)] at this
            exact this
          go_upto_if 58 with fail
          go_wp2_with (refine wpList_store_row rfl 38 (.tmp 6) _ rfl (w.heap.size + 1) #[.int .u32 0, .int .u8 0, .int .u32 0, .int .u8 0, .int .u8 0, .int .u32 0, .int .u32 0, .int .u32 0, .int .u32 0, .slice none 0 0] rfl rfl 38 #[.int .u32 0, .int .u8 0, .int .u32 0, .int .u8 0, .int .u8 0, .int .u32 0, .int .u32 0, .int .u32 0, .int .u32 0, .slice none 0 0] k1 (by kernel_rfl) rfl (by simp [Value.oneCell']) ?_)
          refine bodyPost_ret (results_cell_tmp_row rfl _ _ (w.heap.size + 1) 38 #[.int .u32 0, .int .u8 0, .int .u32 0, .int .u8 0, .int .u8 0, .int .u32 0, .int .u32 0, .int .u32 0, .int .u32 0, .slice none 0 0] (0, 0) _ rfl (blk_setRow k1) Tryz.underlying38 rfl (by kernel_rfl)) rfl ?_
          exact ⟨zeroN, none, 0, 0, false, rfl, below_setRow (hBw.mono (Nat.le_refl _)) (by omega) _, fun _ => (by first | exact hGn | rfl), fun h => by cases h⟩

        · have hc6 := hrow.out w5 (hBw.mono hB) 6 _ rfl
          have hc9 := hrow.out w5 (hBw.mono hB) 9 _ rfl
          have e1 : IntKind.u64.wrap x6 = x6 := by rw [IntKind.wrap_u64]; omega
          have e2 : IntKind.u64.wrap kk = kk := by rw [IntKind.wrap_u64]; omega
          have e3 : IntKind.u64.wrap (x6 + kk) = x6 + kk := by rw [IntKind.wrap_u64]; omega
          go_upto_region 7 with fail
          go_quiet (fail)
          by_cases hbig : 4294967296 ≤ x6 + kk
          · have hGn : G = none := by
              have := hG3.out
              rw [if_pos (.inr hbig)] at this
              exact this
            go_wp2_with (refine wpList_store_row rfl 38 (.tmp 6) _ rfl (w.heap.size + 1) #[.int .u32 0, .int .u8 0, .int .u32 0, .int .u8 0, .int .u8 0, .int .u32 0, .int .u32 0, .int .u32 0, .int .u32 0, .slice none 0 0] rfl rfl 38 #[.int .u32 0, .int .u8 0, .int .u32 0, .int .u8 0, .int .u8 0, .int .u32 0, .int .u32 0, .int .u32 0, .int .u32 0, .slice none 0 0] k1 (by kernel_rfl) rfl (by simp [Value.oneCell']) ?_)
            refine bodyPost_ret (results_cell_tmp_row rfl _ _ (w.heap.size + 1) 38 #[.int .u32 0, .int .u8 0, .int .u32 0, .int .u8 0, .int .u8 0, .int .u32 0, .int .u32 0, .int .u32 0, .int .u32 0, .slice none 0 0] (0, 0) _ rfl (blk_setRow k1) Tryz.underlying38 rfl (by kernel_rfl)) rfl ?_
            exact ⟨zeroN, none, 0, 0, false, rfl, below_setRow ((below_drewN hBw nq).mono (Nat.le_refl _)) (by omega) _, fun _ => (by first | exact hGn | rfl), fun h => by cases h⟩

          · have hG4 := hG3.out
            rw [if_neg (fun hc => by rcases hc with hc | hc <;> omega)] at hG4
            replace hG4 := Lib.hid hG4
            have e4 : IntKind.u32.wrap (x6 + kk) = x6 + kk := by rw [IntKind.wrap_u32]; omega
            go_upto_region 10 with fail
            replace k0 : Blk (w5.drewN nq) w.heap.size 54 #[.int .u16 age, .int .u8 opts, .int .u8 ((t : Nat) : Int), .int .u32 id, .int .u32 adv, .int .i32 seq, .int .u16 sum, .int .u16 len, bv] := k0
            replace k1 : Blk (w5.drewN nq) (w.heap.size + 1) 38 #[.int .u32 0, .int .u8 0, .int .u32 0, .int .u8 0, .int .u8 0, .int .u32 0, .int .u32 0, .int .u32 0, .int .u32 0, .slice none 0 0] := k1
            replace kb : Blk (w5.drewN nq) gb 93 #[.int .u8 0, .slice none 0 0, .int .u32 m, .slice none 0 0, .int .u32 kk, .bool false, .int .u32 0, .int .u32 0, .slice none 0 0] := kb
            replace hBw := below_drewN hBw nq
            replace hc6 : (w5.drewN nq).cell? ⟨bl, off + at_ * 10 + 6, none⟩ = _ := hc6
            replace hc9 : (w5.drewN nq).cell? ⟨bl, off + at_ * 10 + 9, none⟩ = _ := hc9
            have hz5b : gb < (w5.drewN nq).heap.size := kb.lt
            clear y4 hz5 hz4 hz3 hz2
            generalize w5.drewN nq = w6 at *
            have hh6 := hho.below (hBw.mono hB)
            go_upto_region 11 with (at_builtin; refine wpList_append rfl (.const (.slice none 0 0)) (.tmp 79) 36 rfl w6.heap.size hopT (.slice none 0 0) 0 [] rfl (World.ownsRow_nil _ _ _ _) B (.slice xA hops.length xc) hops.length (hops.flatMap hopCells) rfl hh6 hops_oneCell (by simp only [maxLen]; omega) (by omega) (Nat.le_refl _) ?_; intro hv w7 ho7 hg7 hob7; rw [Nat.zero_add, List.nil_append] at ho7; obtain ⟨-, A9, c9, rfl, -⟩ := Sl.of_own ho7; have hS7 := below_of_grown hg7 (Nat.le_refl _) (fun g hg => by simp [Value.ownBlock] at hg))
            have kw := Blk.new w7 38 #[.int .u32 0, .int .u8 0, .int .u32 0, .int .u8 0, .int .u8 2, .int .u32 0, .int .u32 (x6 + kk), .int .u32 0, .int .u32 0, .slice A9 hops.length c9]
            replace k0 := (k0.below hS7 k0.lt).alloc (.cells #[.int .u32 0, .int .u8 0, .int .u32 0, .int .u8 0, .int .u8 2, .int .u32 0, .int .u32 (x6 + kk), .int .u32 0, .int .u32 0, .slice A9 hops.length c9] 38)
            replace k1 := (k1.below hS7 k1.lt).alloc (.cells #[.int .u32 0, .int .u8 0, .int .u32 0, .int .u8 0, .int .u8 2, .int .u32 0, .int .u32 (x6 + kk), .int .u32 0, .int .u32 0, .slice A9 hops.length c9] 38)
            replace kb := (kb.below hS7 kb.lt).alloc (.cells #[.int .u32 0, .int .u8 0, .int .u32 0, .int .u8 0, .int .u8 2, .int .u32 0, .int .u32 (x6 + kk), .int .u32 0, .int .u32 0, .slice A9 hops.length c9] 38)
            replace ho7 := own_alloc (own_base ho7 (B := w.heap.size) hBw.size) (.cells #[.int .u32 0, .int .u8 0, .int .u32 0, .int .u8 0, .int .u8 2, .int .u32 0, .int .u32 (x6 + kk), .int .u32 0, .int .u32 0, .slice A9 hops.length c9] 38)
            replace hBw := below_alloc (hBw.trans (hS7.mono hBw.size)) (Nat.le_refl _) (.cells #[.int .u32 0, .int .u8 0, .int .u32 0, .int .u8 0, .int .u8 2, .int .u32 0, .int .u32 (x6 + kk), .int .u32 0, .int .u32 0, .slice A9 hops.length c9] 38)
            have hz7 : gb < w7.heap.size := Nat.lt_of_lt_of_le hz5b hS7.size
            clear hc6 hc9 hh6 hg7 hob7 hS7 hz5b e1 e2 e3 e4 hrow hho
            generalize w7.alloc (.cells #[.int .u32 0, .int .u8 0, .int .u32 0, .int .u8 0, .int .u8 2, .int .u32 0, .int .u32 (x6 + kk), .int .u32 0, .int .u32 0, .slice A9 hops.length c9] 38) = w8 at *
            generalize w7.heap.size = gw at kw hz7 ⊢
            have hne := own_ne ho7 kw (by decide)
            have hne1 := own_ne ho7 k1 (by decide)
            have x2 := k0.cell 2
            have x3 := k0.cell 3
            simp only [List.getElem?_toArray, List.getElem?_cons_zero, List.getElem?_cons_succ] at x2 x3
            rcases ht with rfl | rfl
            · rw [if_neg (by decide)] at hG4
              have y2 := kb.cell 2
              simp only [List.getElem?_toArray, List.getElem?_cons_zero, List.getElem?_cons_succ] at y2
              have v0 := kw.cell 0
              have v1 := kw.cell 1
              have f0 := kw.free 0
              have f1 := kw.free 1
              simp only [List.getElem?_toArray, List.getElem?_cons_zero, List.getElem?_cons_succ] at v0 v1
              have kw2 := (kw.set_ 0 (.int .u32 (bits BinOp.and .u32 id m))).set_ 1 (.int .u8 (bitsV m))
              simp only [List.setIfInBounds_toArray, List.set_cons_zero, List.set_cons_succ] at kw2
              have k12 := (k1.far (p := ⟨gw, 0, none⟩) (by show w.heap.size + 1 ≠ gw; omega) (.int .u32 (bits BinOp.and .u32 id m))).far (p := ⟨gw, 1, none⟩) (by show w.heap.size + 1 ≠ gw; omega) (.int .u8 (bitsV m))
              have hB12 := (hBw.setCell (p := ⟨gw, 0, none⟩) (by show w.heap.size ≤ gw; omega) (.int .u32 (bits BinOp.and .u32 id m))).setCell (p := ⟨gw, 1, none⟩) (by show w.heap.size ≤ gw; omega) (.int .u8 (bitsV m))
              have ho8 : ((w8.setCell ⟨gw, 0, none⟩ (.int .u32 (bits BinOp.and .u32 id m))).setCell ⟨gw, 1, none⟩ (.int .u8 (bitsV m))).ownsRow w.heap.size 47 3 (.slice A9 hops.length c9) hops.length (hops.flatMap hopCells) := own_same ho7 fun g hg => (Below.heap_setCell _ _ _ g (hne g hg)).trans (Below.heap_setCell _ _ _ g (hne g hg))
              replace kw2 := Lib.hid kw2
              replace k12 := Lib.hid k12
              replace hB12 := Lib.hid hB12
              replace ho8 := Lib.hid ho8
              replace hne1 := Lib.hid hne1
              have CB := Lib.hid (fun W => bits_any m W)
              generalize bitsV m = bv2 at *
              clear ho7 hBw k1 kw hne
              go_upto_region 16 with (go_at_call 113; refine Calls.mono (CB.out _) ?_; rintro x w9 ⟨rfl, rfl⟩)
              replace kw2 := kw2.out
              replace k12 := k12.out
              replace hB12 := hB12.out
              replace ho8 := ho8.out
              clear y2 v0 v1 f0 f1 x2 x3
              generalize bits BinOp.and .u32 id m = idm at *
              generalize (w9.setCell ⟨gw, 0, none⟩ (.int .u32 idm)).setCell ⟨gw, 1, none⟩ (.int .u8 bv2) = w10 at *
              go_wp2_with (first
                | (refine wpList_load_row rfl 38 (.tmp 12) rfl gw rfl 38 #[.int .u32 idm, .int .u8 bv2, .int .u32 0, .int .u8 0, .int .u8 2, .int .u32 0, .int .u32 (x6 + kk), .int .u32 0, .int .u32 0, .slice A9 hops.length c9] (0, 0) _ kw2 Tryz.underlying38 rfl (by kernel_rfl) ?_)
                | (refine wpList_store_row rfl 38 (.tmp 6) _ rfl (w.heap.size + 1) #[.int .u32 idm, .int .u8 bv2, .int .u32 0, .int .u8 0, .int .u8 2, .int .u32 0, .int .u32 (x6 + kk), .int .u32 0, .int .u32 0, .slice A9 hops.length c9] rfl rfl 38 #[.int .u32 0, .int .u8 0, .int .u32 0, .int .u8 0, .int .u8 0, .int .u32 0, .int .u32 0, .int .u32 0, .int .u32 0, .slice none 0 0] k12 (by kernel_rfl) rfl (by simp [Value.oneCell']) ?_))
              refine bodyPost_ret (results_cell_tmp_row rfl _ _ (w.heap.size + 1) 38 #[.int .u32 idm, .int .u8 bv2, .int .u32 0, .int .u8 0, .int .u8 2, .int .u32 0, .int .u32 (x6 + kk), .int .u32 0, .int .u32 0, .slice A9 hops.length c9] (0, 0) _ rfl (blk_setRow k12) Tryz.underlying38 rfl (by kernel_rfl)) rfl ?_
              exact ⟨⟨idm, bv2, 0, 0, 2, 0, x6 + kk, 0, 0⟩, A9, hops.length, c9, true, rfl, below_setRow hB12 (by omega) _, (fun h => by cases h), fun _ => ⟨hops, hG4.out, own_same ho8 fun g hg => setRow_other _ _ _ _ (hne1.out g hg)⟩⟩
            · rw [if_pos rfl] at hG4
              have v1 := kw.cell 2
              have v2 := kw.cell 3
              have f1 := kw.free 2
              have f2 := kw.free 3
              simp only [List.getElem?_toArray, List.getElem?_cons_zero, List.getElem?_cons_succ] at v1 v2
              have kw2 := (kw.set_ 2 (.int .u32 id)).set_ 3 (.int .u8 2)
              simp only [List.setIfInBounds_toArray, List.set_cons_zero, List.set_cons_succ] at kw2
              have k12 := (k1.far (p := ⟨gw, 2, none⟩) (by show w.heap.size + 1 ≠ gw; omega) (.int .u32 id)).far (p := ⟨gw, 3, none⟩) (by show w.heap.size + 1 ≠ gw; omega) (.int .u8 2)
              have hB12 := (hBw.setCell (p := ⟨gw, 2, none⟩) (by show w.heap.size ≤ gw; omega) (.int .u32 id)).setCell (p := ⟨gw, 3, none⟩) (by show w.heap.size ≤ gw; omega) (.int .u8 2)
              have ho8 : ((w8.setCell ⟨gw, 2, none⟩ (.int .u32 id)).setCell ⟨gw, 3, none⟩ (.int .u8 2)).ownsRow w.heap.size 47 3 (.slice A9 hops.length c9) hops.length (hops.flatMap hopCells) := own_same ho7 fun g hg => (Below.heap_setCell _ _ _ g (hne g hg)).trans (Below.heap_setCell _ _ _ g (hne g hg))
              replace kw2 := Lib.hid kw2
              replace k12 := Lib.hid k12
              replace hB12 := Lib.hid hB12
              replace ho8 := Lib.hid ho8
              replace hne1 := Lib.hid hne1
              clear ho7 hBw k1 kw hne
              go_upto_region 13 with fail
              replace kw2 := kw2.out
              replace k12 := k12.out
              replace hB12 := hB12.out
              replace ho8 := ho8.out
              clear v1 v2 f1 f2 x2 x3
              generalize (w8.setCell ⟨gw, 2, none⟩ (.int .u32 id)).setCell ⟨gw, 3, none⟩ (.int .u8 2) = w10 at *
              obtain ⟨q, hq⟩ : ∃ q : Bool, q = (id != 0) := ⟨_, rfl⟩
              have u1 := kw2.drew_.cell 2
              simp only [List.getElem?_toArray, List.getElem?_cons_zero, List.getElem?_cons_succ] at u1
              have kw3 := blk_setRow_far (cs := #[.int .u32 0, .int .u8 0, .int .u32 id, .int .u8 2, .int .u8 2, .int .u32 0, .int .u32 (x6 + kk), .int .u32 0, .int .u32 0, .slice A9 hops.length c9]) kw2.drew_ (g2 := w.heap.size + 1) (by omega)
              have u2 := kw3.cell 2
              simp only [List.getElem?_toArray, List.getElem?_cons_zero, List.getElem?_cons_succ] at u2
              have l0 := blk_loadAt kw2.drew_ Tryz.underlying38 rfl (by kernel_rfl : (Tryz.prog.info? 38).map (·.size) = some 10)
              have l1 := blk_loadAt kw3 Tryz.underlying38 rfl (by kernel_rfl : (Tryz.prog.info? 38).map (·.size) = some 10)
              have s1 := blk_storeAt (P := Tryz.prog) (ty := 38) (cells := #[.int .u32 0, .int .u8 0, .int .u32 id, .int .u8 2, .int .u8 2, .int .u32 0, .int .u32 (x6 + kk), .int .u32 0, .int .u32 0, .slice A9 hops.length c9]) k12.drew_ (by kernel_rfl) rfl (by simp [Value.oneCell'])
              have k13 := blk_setRow (cs := #[.int .u32 0, .int .u8 0, .int .u32 id, .int .u8 2, .int .u8 2, .int .u32 0, .int .u32 (x6 + kk), .int .u32 0, .int .u32 0, .slice A9 hops.length c9]) k12.drew_
              have hq1 : ∀ W, (binOp .neq 24 (.int .u32 id) (.int .u32 0)).run Tryz.prog W = .ok (.bool q) W := fun W => by rw [hq]; go_simp
              replace hq := Lib.hid hq
              refine wp_region_one 4 [some 91, some 92, some 93, some 94, none, some 7] [.agg #[.int .u32 0, .int .u8 0, .int .u32 id, .int .u8 2, .int .u8 2, .int .u32 0, .int .u32 (x6 + kk), .int .u32 0, .int .u32 0, .slice A9 hops.length c9], .pointer (some ⟨gw, 2, none⟩), .int .u32 id, .bool q, undef, .bool q] (w10.drew.setRow (w.heap.size + 1) #[.int .u32 0, .int .u8 0, .int .u32 id, .int .u8 2, .int .u8 2, .int .u32 0, .int .u32 (x6 + kk), .int .u32 0, .int .u32 0, .slice A9 hops.length c9]) ?A ?hA (by kernel_rfl) rfl (by kernel_rfl) (by kernel_rfl) (by kernel_rfl) ?hr0 ?hr1 38 (.tmp 6) (.tmp 91) rfl ?hs ?hf
              case hA => simp only [putL, Act.put, List.setIfInBounds_toArray, List.set_cons_zero, List.set_cons_succ]; rfl
              case hs => exact s1
              case hr0 =>
                simp only [RunL, RunOp]
                refine ⟨l0, ?_, ?_, ?_, trivial, fun W => rfl, trivial⟩
                · intro W; go_simp
                · go_simp
                · intro W; go_simp; exact hq.out.symm
              case hr1 =>
                simp only [RunL, RunOp]
                refine ⟨l1, ?_, ?_, ?_, trivial, fun W => rfl, trivial⟩
                · intro W; go_simp
                · go_simp
                · intro W; go_simp; exact hq.out.symm
              go_wp2_with fail
              refine bodyPost_ret (results_cell_tmp_row rfl _ _ (w.heap.size + 1) 38 _ (0, 0) _ rfl k13 Tryz.underlying38 rfl (by kernel_rfl)) rfl ?_
              refine ⟨⟨0, 0, id, 2, 2, 0, x6 + kk, 0, 0⟩, A9, hops.length, c9, q, rfl, below_setRow hB12.drew (by omega) _, fun h => ?_, fun h => ?_⟩
              · have hid : id = 0 := by rw [hq.out] at h; simpa using h
                have := hG4.out
                rw [if_pos hid] at this
                exact this
              · have hid : ¬ id = 0 := by rw [hq.out] at h; simpa using h
                have := hG4.out
                rw [if_neg hid] at this
                exact ⟨hops, this, own_same ho8 fun g hg => setRow_other _ _ _ _ (hne1.out g hg)⟩
end Go.Proofs.YtiikagabdiphkaaGreat
