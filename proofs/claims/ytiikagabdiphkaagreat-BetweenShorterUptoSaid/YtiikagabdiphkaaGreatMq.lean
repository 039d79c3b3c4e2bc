/- Ways are improved by a transit area. -/
import Derived.Test.YtiikagabdiphkaaGreatMp
namespace Go.Proofs.YtiikagabdiphkaaGreat
open Go.RowKit Go.Lo Go.Maps

theorem bestF_ink (gs : List WayG) : (∀ g ∈ gs, InK (keyG g.1)) → ∀ k o, bestF gs k = some o → InK k := bestF_ind (fun gs f => (∀ g ∈ gs, InK (keyG g.1)) → ∀ k o, f k = some o → InK k) (fun _ _ _ h => by cases h) (fun gs g ih hg k o h => by
  rw [bestF_snoc] at h
  split at h
  · rename_i hk
    rw [hk]; exact hg g (by simp)
  · exact ih (fun x hx => hg x (by simp [hx])) k o h) gs
theorem leadsP_ok {S : List StG} {R : List WayG} {m : Nat} (hSo : ∀ x ∈ S, StOk x) (hm : ∀ r ∈ R, r.2.length ≤ m) (self : Int) : ∀ g ∈ leadsP S self R, InK (keyG g.1) ∧ g.2.length ≤ m := fun g hg => by
  obtain ⟨s, hs, hg2⟩ := List.mem_filterMap.1 hg
  exact leadP_ok (hSo s hs).1 hm hg2
theorem leadsP_ink {S : List StG} {R : List WayG} {m : Nat} (hSo : ∀ x ∈ S, StOk x) (hm : ∀ r ∈ R, r.2.length ≤ m) (self : Int) : ∀ k o, bestF (leadsP S self R) k = some o → InK k := bestF_ink _ fun g hg => (leadsP_ok hSo hm self g hg).1
theorem leadsP_len {S : List StG} {R : List WayG} {m : Nat} (hSo : ∀ x ∈ S, StOk x) (hm : ∀ r ∈ R, r.2.length ≤ m) (self : Int) (hmN : m * S.length ≤ 100000) : ∀ k o, bestF (leadsP S self R) k = some o → o.2.length ≤ 100000 := fun k o ho => by
  have h1 := bestF_len m (leadsP S self R) (fun g hg => (leadsP_ok hSo hm self g hg).2) k o ho
  have h2 : m * (leadsP S self R).length ≤ m * S.length := Nat.mul_le_mul_left m (List.length_filterMap_le _ _)
  omega
theorem wp_seq_k {P : Program} {x y : Code} {Q : Exit → Act → World → Prop} {a : Act} {w : World} (h : ∀ K : Act → World → Prop, (∀ a w, y.wp P Q a w → K a w) → x.wp P (Exit.then K Q) a w) : (Code.seq x y).wp P Q a w := wp_seq (h _ fun _ _ h => h)
theorem sl_grown {w w' : World} {B s n : Nat} {v : Value} {xs : List Value} {row : Option Nat} (h : Sl w B s v n xs) (hg : w.grownBy w' row) (hr : ∀ r, row = some r → ∃ o : Obj, w.heap[r]? = some o ∧ o.isCells = false) : Sl w' B s v n xs := by
  obtain ⟨h1, A, c, hv, h2, h3, h4⟩ := h
  refine ⟨h1, A, c, hv, h2, h3, fun hn => ?_⟩
  obtain ⟨b, off, hA, hb, hc⟩ := h4 hn
  exact ⟨b, off, hA, hb, fun j u hu => cell_kept (hc j u hu) hg hr⟩

/-- what Improve hands back -/
def ImpPost (f : K3 → Option WayG) (W : List WayG) (w : World) (e : Ending) (w' : World) : Prop :=
  ∃ (v : Value) (xs : List WayY), e = .returned v ∧ w'.ownsRow w.heap.size 38 10 v xs.length (xs.flatMap yL) ∧ (∀ x ∈ xs, HopsAt x w') ∧ gOf xs = W.map (improveP f) ∧ Below w.heap.size w w'

/-- a way under way: its cells lie in block b, its hops are the call's own -/
structure ImpS (w0 : World) (xs : List WayY) (v : Value) (b : Nat) (g : WayG) (wr : World) : Prop where
  way : ∃ A c, Blk wr b 38 (wayC g.1 (.slice A g.2.length c)) ∧ wr.ownsRow w0.heap.size 47 3 (.slice A g.2.length c) g.2.length (g.2.flatMap hopCells)
  imp : ImpR w0 xs v wr
  le : w0.heap.size ≤ b
  ne : v.ownBlock ≠ some b
theorem ImpS.grown {w0 wr w' : World} {xs : List WayY} {v : Value} {b : Nat} {g : WayG} (h : ImpS w0 xs v b g wr) (hb : Below wr.heap.size wr w') : ImpS w0 xs v b g w' := by
  obtain ⟨A, c, h1, h2⟩ := h.way
  exact ⟨⟨A, c, Blk.call hb h1, own_below h2 hb⟩, h.imp.call hb, h.le, h.ne⟩

/-- the first loop: the map is filled -/
structure ImpM (w1 : World) (f : K3 → Option WayG) (out : List WayY) (b : Nat) (k : Nat) (wr : World) (D : DataW Value) : Prop where
  own : wr.ownsMap Tryz.prog 108 rawR b k D
  ok : MapOk w1 D fun k' => if k' ∈ (out.take k).map (fun x => keyG x.1.n) then f k' else none
  grown : w1.grownBy wr (some b)

set_option maxRecDepth 100000 in
set_option maxHeartbeats 16000000 in
theorem improve_any (m B : Nat) (wA : Option Addr) (wcap : Nat) (W : List WayG) (wl : List WayV) (sA : Option Addr) (sc : Nat) (S : List StG) (ls : List StV) (self : Int) (lA : Option Addr) (lc : Nat) (R : List WayG) (lw : List WayV) (w : World) (hm : ∀ r ∈ R, r.2.length ≤ m) (hmN : m * S.length ≤ 100000) (hN : S.length ≤ 1000000)
    (hWw : WaysIn w B (.slice wA wl.length wcap) W wl) (hWk : ∀ g ∈ W, InK (keyG g.1)) (hWh : ∀ g ∈ W, g.2.length ≤ 300000) (hWn : wl.length ≤ 1000000) (hS : StatesIn w B (.slice sA ls.length sc) S ls) (hSo : ∀ x ∈ S, StOk x) (hW : WaysIn w B (.slice lA lw.length lc) R lw) (hR : WysOk R) (hB : B ≤ w.heap.size) :
    Calls Tryz.prog 17 #[.slice wA wl.length wcap, .slice sA ls.length sc, .int .u32 self, .slice lA lw.length lc] w (ImpPost (bestF (leadsP S self R)) W w) := by
  have hmm := @run_makeMap Tryz.prog
  have hmix : (Tryz.prog).follows .mixedOrders = true := by kernel_rfl
  have hbm : Below w.heap.size w (w.alloc (.map #[] 0)) := Below.alloc (Below.refl _ _) (Nat.le_refl _) _
  have hmade := World.ownsMap_made w Tryz.prog 108 rawR
  have CL := Lib.hid (leads_any sA ls.length sc self lA lw.length lc (w.alloc (.map #[] 0)))
  have CF := Lib.hid (found_any m B sA sc S ls self lA lc R lw (w.alloc (.map #[] 0)) hm hmN hN (hS.below (hbm.mono hB)) hSo (hW.below (hbm.mono hB)) hR (Nat.le_trans hB hbm.size))
  have hb1 := LdW_below sA ls.length sc self (.slice lA lw.length lc) (w.alloc (.map #[] 0))
  have hfl := leadsP_len hSo hm self hmN
  have hfk := leadsP_ink hSo hm self
  replace hN := Lib.hid hN
  clear hS hSo hW hR hm hmN
  generalize bestF (leadsP S self R) = f at *
  generalize S.length = N at *
  replace hWw := Lib.hid hWw
  replace hWk := Lib.hid hWk
  replace hWh := Lib.hid hWh
  replace hfl := Lib.hid hfl
  replace hfk := Lib.hid hfk
  replace hbm := Lib.hid hbm
  replace hmade := Lib.hid hmade
  replace hb1 := Lib.hid hb1
  go_enter Tryz.func17, Tryz.ntmps17
  go_upto_region 2 with fail
  generalize w.alloc (.map #[] 0) = w0 at *
  go_wp2_with (first
    | (go_at_call 52; refine Calls.mono CL.out ?_; rintro e w1 ⟨rfl, rfl⟩)
    | (go_at_call 51; refine Calls.mono CF.out ?_; rintro e w2 ⟨v, out, rfl, ho, hH, hnd, hf, hall, hlen, hb2⟩; obtain ⟨-, vA, vc, rfl, -⟩ := id (Sl.of_own ho))
    | fail)
  have hbw2 : Below w0.heap.size w0 w2 := hb1.out.trans (hb2.mono hb1.out.size)
  have hbw : Below w.heap.size w w2 := hbm.out.trans (hbw2.mono hbm.out.size)
  have hmade2 : w2.ownsMap Tryz.prog 108 rawR w.heap.size 0 (.map []) := hmade.out.kept (grown_of_below hbw2 none) (fun e => by cases e)
  have hl := Sl.of_own ho
  have hz2 := hbw.size
  clear CL CF hb1 hb2 ho hbm hmade hbw2
  replace hnd := Lib.hid hnd
  replace hf := Lib.hid hf
  replace hall := Lib.hid hall
  replace hH := Lib.hid hH
  replace hlen := Lib.hid hlen
  replace hl := Lib.hid hl
  replace hbw := Lib.hid hbw
  have hM0 : w.heap.size < w2.heap.size := hmade2.lt
  go_loopg [24] out.length (fun c i wr => ∃ (k : Nat) (D : DataW Value), k ≤ out.length ∧ c = out.length - k ∧ i = .int .i64 k ∧ ImpM w2 f out w.heap.size k wr D)
  case atStart => exact ⟨0, _, Nat.zero_le _, rfl, rfl, hmade2, by
    rw [show (fun k' => if k' ∈ (out.take 0).map (fun x => keyG x.1.n) then f k' else none) = bestF [] from funext fun k' => by simp [bestF]]
    exact MapOk.start w2, grown_refl _ _⟩
  case round =>
    obtain ⟨k, D, hk, rfl, rfl, hI⟩ := hrel
    obtain ⟨w3, rfl⟩ : ∃ x : World, x = wr := ⟨_, rfl⟩
    have hzr := hI.grown.size
    have hobj : ∀ r, some w.heap.size = some r → ∃ o : Obj, w2.heap[r]? = some o ∧ o.isCells = false := fun r e => by
      obtain ⟨es, cl, h3, _⟩ := hmade2
      simp only [Option.some.injEq] at e
      subst e
      exact ⟨_, h3, rfl⟩
    by_cases hkl : k < out.length
    · obtain ⟨b, off, rfl, hb0, hrow⟩ := Sl.row yE.len (sl_grown hl.out hI.grown hobj) hkl
      have hbig : out.length ≤ 1000000 := Nat.le_trans hlen.out hN.out
      have hfx := hf.out _ (List.getElem_mem hkl)
      have hHx := hH.out _ (List.getElem_mem hkl)
      have htk : (out.take (k + 1)).map (fun x => keyG x.1.n) = (out.take k).map (fun x => keyG x.1.n) ++ [keyG out[k].1.n] := by rw [List.take_succ_eq_append_getElem hkl, List.map_append]; rfl
      obtain ⟨x, hx⟩ : ∃ x, x = out[k] := ⟨_, rfl⟩
      rw [← hx] at hrow hfx hHx htk
      clear hx
      obtain ⟨⟨⟨x0, x1, x2, x3, x4, x5, x6, x7, x8⟩, xA, xn, xc⟩, xh⟩ := x
      have hkx : InK (x0, x1, x2) := hfk.out _ _ hfx
      replace htk : (out.take (k + 1)).map (fun x => keyG x.1.n) = (out.take k).map (fun x => keyG x.1.n) ++ [((x0, x1, x2) : K3)] := htk
      have q0 : w3.cell? ⟨b, off + k * 10, none⟩ = some (.int .u32 x0) := hrow 0 _ rfl
      have q1 : w3.cell? ⟨b, off + k * 10 + 1, none⟩ = some (.int .u8 x1) := hrow 1 _ rfl
      have q2 : w3.cell? ⟨b, off + k * 10 + 2, none⟩ = some (.int .u32 x2) := hrow 2 _ rfl
      have q3 : w3.cell? ⟨b, off + k * 10 + 3, none⟩ = some (.int .u8 x3) := hrow 3 _ rfl
      have q4 : w3.cell? ⟨b, off + k * 10 + 4, none⟩ = some (.int .u8 x4) := hrow 4 _ rfl
      have q5 : w3.cell? ⟨b, off + k * 10 + 5, none⟩ = some (.int .u32 x5) := hrow 5 _ rfl
      have q6 : w3.cell? ⟨b, off + k * 10 + 6, none⟩ = some (.int .u32 x6) := hrow 6 _ rfl
      have q7 : w3.cell? ⟨b, off + k * 10 + 7, none⟩ = some (.int .u32 x7) := hrow 7 _ rfl
      have q8 : w3.cell? ⟨b, off + k * 10 + 8, none⟩ = some (.int .u32 x8) := hrow 8 _ rfl
      have q9 : w3.cell? ⟨b, off + k * 10 + 9, none⟩ = some (.slice xA xn xc) := hrow 9 _ rfl
      have ik : (k : Int) < (out.length : Int) := by omega
      have hput : ∀ k', (if k' ∈ (out.take (k + 1)).map (fun x => keyG x.1.n) then f k' else none) = if k' = (x0, x1, x2) then some (⟨x0, x1, x2, x3, x4, x5, x6, x7, x8⟩, xh) else (if k' ∈ (out.take k).map (fun x => keyG x.1.n) then f k' else none) := fun k' => by
        rw [htk]
        by_cases hk' : k' = (x0, x1, x2)
        · rw [if_pos hk', if_pos (by rw [hk']; exact List.mem_append.2 (.inr (List.mem_singleton.2 rfl))), hk']; exact hfx
        · rw [if_neg hk']
          by_cases h2 : k' ∈ (out.take k).map (fun x => keyG x.1.n)
          · rw [if_pos h2, if_pos (List.mem_append.2 (.inl h2))]
          · rw [if_neg h2, if_neg (fun h => (List.mem_append.1 h).elim h2 fun h => hk' (List.mem_singleton.1 h))]
      clear hrow htk
      replace hput := Lib.hid hput
      replace hfx := Lib.hid hfx
      go_upto_region 5 with fail
      have kt := Blk.new w3 38 #[.int .u32 x0, .int .u8 x1, .int .u32 x2, .int .u8 x3, .int .u8 x4, .int .u32 x5, .int .u32 x6, .int .u32 x7, .int .u32 x8, .slice xA xn xc]
      have hb4 : Below w3.heap.size w3 (w3.alloc (.cells #[.int .u32 x0, .int .u8 x1, .int .u32 x2, .int .u8 x3, .int .u8 x4, .int .u32 x5, .int .u32 x6, .int .u32 x7, .int .u32 x8, .slice xA xn xc] 38)) := Below.alloc (Below.refl _ _) (Nat.le_refl _) _
      have hown4 := hI.own.alloc (.cells #[.int .u32 x0, .int .u8 x1, .int .u32 x2, .int .u8 x3, .int .u8 x4, .int .u32 x5, .int .u32 x6, .int .u32 x7, .int .u32 x8, .slice xA xn xc] 38)
      clear q0 q1 q2 q3 q4 q5 q6 q7 q8 q9
      generalize w3.alloc (.cells #[.int .u32 x0, .int .u8 x1, .int .u32 x2, .int .u8 x3, .int .u8 x4, .int .u32 x5, .int .u32 x6, .int .u32 x7, .int .u32 x8, .slice xA xn xc] 38) = w4 at *
      have hg4 : w2.grownBy w4 (some w.heap.size) := grown_trans hI.grown (grown_of_below hb4 _)
      have t0 := kt.cell 0
      have t1 := kt.cell 1
      have t2 := kt.cell 2
      have t3 := kt.cell 3
      have t4 := kt.cell 4
      have t5 := kt.cell 5
      have t6 := kt.cell 6
      have t7 := kt.cell 7
      have t8 := kt.cell 8
      have t9 := kt.cell 9
      simp only [List.getElem?_toArray, List.getElem?_cons_zero, List.getElem?_cons_succ] at t0 t1 t2 t3 t4 t5 t6 t7 t8 t9
      go_wp2_with (first
        | (at_mapUpdate; refine wpList_put_way rfl _ _ _ rfl w.heap.size k D _ _ rfl hown4 hI.ok (by simp only [maxLen]; omega) (x0, x1, x2) hkx rfl ⟨⟨x0, x1, x2, x3, x4, x5, x6, x7, x8⟩, xA, xn, xc⟩ xh rfl hHx hput.out ?_; intro w5 D5 hown5 hM5 hg5)
        | fail)
      go_roundg (out.length - (k + 1))
      case measure => omega
      case rel => exact ⟨k + 1, D5, by omega, rfl, by go_num, hown5, hM5, grown_trans hg4 hg5⟩
    · obtain rfl : k = out.length := by omega
      have hMf : MapOk w2 D f := by
        have h1 := hI.ok
        have h2 : (fun k' => if k' ∈ (out.take out.length).map (fun x => keyG x.1.n) then f k' else none) = f := funext fun k' => by
          rw [List.take_length]
          cases hfk' : f k' with
          | none => split <;> rfl
          | some g =>
            obtain ⟨x, hx, hx2⟩ := hall.out k' g hfk'
            rw [if_pos (List.mem_map.2 ⟨x, hx, hx2⟩)]
        rw [h2] at h1
        exact h1
      have hown3 := hI.own
      have hb3 : Below w.heap.size w w3 := hbw.out.trans (below_of_grown hI.grown hz2 fun g e => by simp only [Option.some.injEq] at e; omega)
      have hM3 : MapOk w3 D f := hMf.move fun x hx => hopsAt_own 0 x _ _ _ hx hI.grown fun r e => ⟨Nat.zero_le _, hobj r e⟩
      clear hI hMf hmade2 hobj
      clear hH hnd hf hall hl hlen
      go_wp2_with fail
      go_loopg [38, 12] wl.length (fun c i v wr => ∃ (k : Nat) (xs : List WayY), k ≤ wl.length ∧ c = wl.length - k ∧ i = .int .i64 k ∧ xs.length = k ∧ gOf xs = (W.take k).map (improveP f) ∧ ImpR w3 xs v wr)
      case atStart => exact ⟨0, [], Nat.zero_le _, rfl, rfl, rfl, rfl, ⟨World.ownsRow_nil _ _ _ _, fun _ h => (by cases h), Below.refl _ _⟩⟩
      case round =>
        obtain ⟨k, xs, hk, rfl, rfl, hxk, hgx, hI⟩ := hrel
        obtain ⟨v1, rfl⟩ : ∃ x : World, x = wr := ⟨_, rfl⟩
        have hz1 := hI.below.size
        have hz3 := hb3.size
        have hwl : wl.length = W.length := hWw.out.len
        by_cases hkl : k < wl.length
        · have hkW : k < W.length := by omega
          have hW1 := hWw.out.below ((hb3.trans (hI.below.mono hz3)).mono hB)
          obtain ⟨b, off, hwA, hb0, hrow⟩ := Sl.row wayL_len hW1.sl hkl
          subst hwA
          have hhp := hW1.hops k hkl hkW
          have hxn := hW1.n k hkl hkW
          have hgk := hWk.out _ (List.getElem_mem hkW)
          have hgh := hWh.out _ (List.getElem_mem hkW)
          have htk : (W.take (k + 1)).map (improveP f) = (W.take k).map (improveP f) ++ [improveP f W[k]] := by rw [List.take_succ_eq_append_getElem hkW, List.map_append]; rfl
          replace hwl := Lib.hid hwl
          obtain ⟨x, hx⟩ : ∃ x, x = wl[k] := ⟨_, rfl⟩
          rw [← hx] at hrow hhp hxn
          clear hx
          generalize W[k] = g at *
          obtain ⟨gn, gh⟩ := g
          obtain ⟨⟨x0, x1, x2, x3, x4, x5, x6, x7, x8⟩, xA, xn, xc⟩ := x
          simp only at hxn
          subst hxn
          obtain rfl : xn = gh.length := sl_len hhp
          replace hgh : gh.length ≤ 300000 := hgh
          replace hgk : InK (x0, x1, x2) := hgk
          have q0 : v1.cell? ⟨b, off + k * 10, none⟩ = some (.int .u32 x0) := hrow 0 _ rfl
          have q1 : v1.cell? ⟨b, off + k * 10 + 1, none⟩ = some (.int .u8 x1) := hrow 1 _ rfl
          have q2 : v1.cell? ⟨b, off + k * 10 + 2, none⟩ = some (.int .u32 x2) := hrow 2 _ rfl
          have q3 : v1.cell? ⟨b, off + k * 10 + 3, none⟩ = some (.int .u8 x3) := hrow 3 _ rfl
          have q4 : v1.cell? ⟨b, off + k * 10 + 4, none⟩ = some (.int .u8 x4) := hrow 4 _ rfl
          have q5 : v1.cell? ⟨b, off + k * 10 + 5, none⟩ = some (.int .u32 x5) := hrow 5 _ rfl
          have q6 : v1.cell? ⟨b, off + k * 10 + 6, none⟩ = some (.int .u32 x6) := hrow 6 _ rfl
          have q7 : v1.cell? ⟨b, off + k * 10 + 7, none⟩ = some (.int .u32 x7) := hrow 7 _ rfl
          have q8 : v1.cell? ⟨b, off + k * 10 + 8, none⟩ = some (.int .u32 x8) := hrow 8 _ rfl
          have q9 : v1.cell? ⟨b, off + k * 10 + 9, none⟩ = some (.slice xA gh.length xc) := hrow 9 _ rfl
          have ik : (k : Int) < (wl.length : Int) := by omega
          clear hrow hW1
          go_upto_region 11 with fail
          rename_i K1 h1
          have kt := Blk.new v1 38 #[.int .u32 x0, .int .u8 x1, .int .u32 x2, .int .u8 x3, .int .u8 x4, .int .u32 x5, .int .u32 x6, .int .u32 x7, .int .u32 x8, .slice xA gh.length xc]
          have hb2 : Below v1.heap.size v1 (v1.alloc (.cells #[.int .u32 x0, .int .u8 x1, .int .u32 x2, .int .u8 x3, .int .u8 x4, .int .u32 x5, .int .u32 x6, .int .u32 x7, .int .u32 x8, .slice xA gh.length xc] 38)) := Below.alloc (Below.refl _ _) (Nat.le_refl _) _
          have hI2 := hI.alloc (.cells #[.int .u32 x0, .int .u8 x1, .int .u32 x2, .int .u8 x3, .int .u8 x4, .int .u32 x5, .int .u32 x6, .int .u32 x7, .int .u32 x8, .slice xA gh.length xc] 38)
          have hne : u12.ownBlock ≠ some v1.heap.size := fun e => by have := (hI.own.lt _ e).2; omega
          have hsl2 : Sl (v1.alloc (.cells #[.int .u32 x0, .int .u8 x1, .int .u32 x2, .int .u8 x3, .int .u8 x4, .int .u32 x5, .int .u32 x6, .int .u32 x7, .int .u32 x8, .slice xA gh.length xc] 38)) B 3 (.slice xA gh.length xc) gh.length (gh.flatMap hopCells) := hhp.below (hb2.mono (by omega))
          have hz2 := hb2.size
          clear q0 q1 q2 q3 q4 q5 q6 q7 q8 q9
          generalize v1.alloc (.cells #[.int .u32 x0, .int .u8 x1, .int .u32 x2, .int .u8 x3, .int .u8 x4, .int .u32 x5, .int .u32 x6, .int .u32 x7, .int .u32 x8, .slice xA gh.length xc] 38) = v2 at *
          obtain ⟨b14, hb14⟩ : ∃ b, b = v1.heap.size := ⟨_, rfl⟩
          rw [← hb14] at kt hne ⊢
          have hle14 : w3.heap.size ≤ b14 := by omega
          replace hb14 := Lib.hid hb14
          have t0 := kt.cell 0
          have t1 := kt.cell 1
          have t2 := kt.cell 2
          have t3 := kt.cell 3
          have t4 := kt.cell 4
          have t5 := kt.cell 5
          have t6 := kt.cell 6
          have t7 := kt.cell 7
          have t8 := kt.cell 8
          have t9 := kt.cell 9
          simp only [List.getElem?_toArray, List.getElem?_cons_zero, List.getElem?_cons_succ] at t0 t1 t2 t3 t4 t5 t6 t7 t8 t9
          have ef := kt.free 9
          have hlt2 := kt.lt
          go_cut [] (fun wx => ImpS w3 xs u12 b14 (⟨x0, x1, x2, x3, x4, x5, x6, x7, x8⟩, gh) wx)
          case first =>
            go_upto_region 12 with (at_builtin; refine wpList_append rfl (.const (.slice none 0 0)) (.tmp 43) 36 rfl w3.heap.size hopT (.slice none 0 0) 0 [] rfl (World.ownsRow_nil _ _ _ _) B (.slice xA gh.length xc) gh.length (gh.flatMap hopCells) rfl hsl2 hops_oneCell (by simp only [maxLen]; omega) (by omega) (by omega) ?_; intro hv v3 ho3 hg3 hob3; rw [Nat.zero_add, List.nil_append] at ho3; obtain ⟨-, A9, c9, rfl, -⟩ := Sl.of_own ho3; have hS3 := below_of_grown hg3 (Nat.le_refl _) (fun g hg => by simp [Value.ownBlock] at hg); have kt3 := kt.below hS3 hlt2; have f93 := kt3.free 9; have x93 := kt3.cell 9; simp only [List.getElem?_toArray, List.getElem?_cons_zero, List.getElem?_cons_succ] at x93)
            go_meet
            case rel =>
              have hI3 := hI2.call hS3
              have kt4 := kt3.set_ 9 (.slice A9 gh.length c9)
              have ho4 := own_same (w' := v3.setCell ⟨b14, 9, none⟩ (.slice A9 gh.length c9)) ho3 fun q hq => Below.heap_setCell v3 ⟨b14, 9, none⟩ _ q fun e => own_ne ho3 kt3 (by decide) q hq e
              have hI4 := hI3.grown (grown_setCell (grown_refl v3 (some b14)) (p := ⟨b14, 9, none⟩) (.inl rfl) (.slice A9 gh.length c9)) fun q e => by
                simp only [Option.some.injEq] at e
                subst e
                exact ⟨hle14, hne, _, kt3⟩
              exact ⟨⟨A9, c9, kt4, ho4⟩, hI4, hle14, hne⟩
          case rest =>
            clear kt ef hlt2 hI2 hb2 hsl2 t0 t1 t2 t3 t4 t5 t6 t7 t8 t9
            obtain ⟨v4, rfl⟩ : ∃ x : World, x = wc := ⟨_, rfl⟩
            have hS4 := hcut
            clear hcut
            refine h1 _ _ (wp_seq_k fun K2 h2 => ?_)
            clear h1
            go_cut [] (fun wx => ImpS w3 xs u12 b14 (improveP f (⟨x0, x1, x2, x3, x4, x5, x6, x7, x8⟩, gh)) wx)
            case first =>
              have hg0 : improveP f (⟨x0, x1, x2, x3, x4, x5, x6, x7, x8⟩, gh) = match f (x0, x1, x2) with
                | none => (⟨x0, x1, x2, x3, x4, x5, x6, x7, x8⟩, gh)
                | some o => if improves o (⟨x0, x1, x2, x3, x4, x5, x6, x7, x8⟩, gh) = false then (⟨x0, x1, x2, x3, x4, x5, x6, x7, x8⟩, gh) else (⟨x0, x1, x2, x3, x4, x5, o.1.cost, x7, x8⟩, puts (puts [] (if o.1.cost < x6 then [] else gh)) o.2) := rfl
              generalize improveP f (⟨x0, x1, x2, x3, x4, x5, x6, x7, x8⟩, gh) = G at *
              have hown4 := hown3.kept (grown_of_below (w := w3) (w' := v4) (hS4.imp.below) none) (fun e => by cases e)
              obtain ⟨⟨A9, c9, k14, hg14⟩, hI4, -, -⟩ := id hS4
              dsimp only [wayC] at k14
              have t0 := k14.cell 0
              have t1 := k14.cell 1
              have t2 := k14.cell 2
              have t3 := k14.cell 3
              have t4 := k14.cell 4
              have t5 := k14.cell 5
              have t6 := k14.cell 6
              have t7 := k14.cell 7
              have t8 := k14.cell 8
              have t9 := k14.cell 9
              simp only [List.getElem?_toArray, List.getElem?_cons_zero, List.getElem?_cons_succ] at t0 t1 t2 t3 t4 t5 t6 t7 t8 t9
              have hS4' := Lib.hid hS4
              clear hS4
              replace hI4 := Lib.hid hI4
              go_upto_region 13 with (at_lookup; refine wpList_lookup_way rfl _ _ rfl w.heap.size out.length D f rfl hown4 hM3 (x0, x1, x2) hgk rfl (fun hf => ?_) (fun y yh hf hHy => ?_))
              · rw [hf] at hg0
                have hb5 : Below v4.heap.size v4 (v4.alloc (.cells #[.int .u32 0, .int .u8 0, .int .u32 0, .int .u8 0, .int .u8 0, .int .u32 0, .int .u32 0, .int .u32 0, .int .u32 0, .slice none 0 0] 38)) := Below.alloc (Below.refl _ _) (Nat.le_refl _) _
                go_wp2_with fail
                go_meet
                case rel => rw [hg0]; exact hS4'.out.grown hb5
              · have hHy3 := hHy
                rw [hf] at hg0
                have hb5 : Below v4.heap.size v4 (v4.alloc (.cells #[.int .u32 y.n.addr, .int .u8 y.n.bits, .int .u32 y.n.router, .int .u8 y.n.flags, .int .u8 y.n.kind, .int .u32 y.n.area, .int .u32 y.n.cost, .int .u32 y.n.far, .int .u32 y.n.tag, .slice y.A y.len y.cap] 38)) := Below.alloc (Below.refl _ _) (Nat.le_refl _) _
                have k15 := Blk.new v4 38 #[.int .u32 y.n.addr, .int .u8 y.n.bits, .int .u32 y.n.router, .int .u8 y.n.flags, .int .u8 y.n.kind, .int .u32 y.n.area, .int .u32 y.n.cost, .int .u32 y.n.far, .int .u32 y.n.tag, .slice y.A y.len y.cap]
                have hyl := hfl.out _ _ hf
                replace hyl : yh.length ≤ 100000 := hyl
                have hlt14 := k14.lt
                have hS5 := hS4'.out.grown hb5
                have k145 := Blk.call hb5 k14
                have hg145 := own_below hg14 hb5
                replace hHy := (HopsAt.call hHy hI4.out.below).call hb5
                have hne15 : b14 ≠ v4.heap.size := by omega
                clear t0 t1 t2 t3 t4 t5 t6 t7 t8 t9 k14 hg14 hI4 hS4' hown4
                obtain ⟨b15, hb15⟩ : ∃ b, b = v4.heap.size := ⟨_, rfl⟩
                rw [← hb15] at k15 hne15 ⊢
                clear hb15
                generalize v4.alloc (.cells #[.int .u32 y.n.addr, .int .u8 y.n.bits, .int .u32 y.n.router, .int .u8 y.n.flags, .int .u8 y.n.kind, .int .u32 y.n.area, .int .u32 y.n.cost, .int .u32 y.n.far, .int .u32 y.n.tag, .slice y.A y.len y.cap] 38) = v5 at *
                clear hb5
                replace hS5 := Lib.hid hS5
                have t0 := k145.cell 0
                have t1 := k145.cell 1
                have t2 := k145.cell 2
                have t3 := k145.cell 3
                have t4 := k145.cell 4
                have t5 := k145.cell 5
                have t6 := k145.cell 6
                have t7 := k145.cell 7
                have t8 := k145.cell 8
                have t9 := k145.cell 9
                simp only [List.getElem?_toArray, List.getElem?_cons_zero, List.getElem?_cons_succ] at t0 t1 t2 t3 t4 t5 t6 t7 t8 t9
                have z0 := k15.cell 0
                have z1 := k15.cell 1
                have z2 := k15.cell 2
                have z3 := k15.cell 3
                have z4 := k15.cell 4
                have z5 := k15.cell 5
                have z6 := k15.cell 6
                have z7 := k15.cell 7
                have z8 := k15.cell 8
                have z9 := k15.cell 9
                simp only [List.getElem?_toArray, List.getElem?_cons_zero, List.getElem?_cons_succ] at z0 z1 z2 z3 z4 z5 z6 z7 z8 z9
                have no : improves (y.n, yh) (⟨x0, x1, x2, x3, x4, x5, x6, x7, x8⟩, gh) = false → G = (⟨x0, x1, x2, x3, x4, x5, x6, x7, x8⟩, gh) := fun h => by rw [hg0]; simp only [h]; rfl
                by_cases hka : (x4 = 1 ∨ x4 = 2) ∧ x5 = 0 ∧ y.n.cost ≤ x6
                · obtain ⟨hk, rfl, hc⟩ := hka
                  have hyes : improves (y.n, yh) (⟨x0, x1, x2, x3, x4, 0, x6, x7, x8⟩, gh) = true := by
                    simp only [improves, Bool.and_eq_true, Bool.or_eq_true, beq_iff_eq, decide_eq_true_eq]
                    exact ⟨hk, trivial, hc⟩
                  have hG : G = ((⟨x0, x1, x2, x3, x4, 0, y.n.cost, x7, x8⟩, puts (puts [] (if y.n.cost < x6 then [] else gh)) yh) : WayG) := by rw [hg0]; simp only [hyes]; rfl
                  have ef9 := k145.free 9
                  clear hyes
                  rcases hk with rfl | rfl
                  · have hkk : ¬ ((1 : Int) = 2) := by decide
                    by_cases hlt : y.n.cost < x6
                    · go_upto_region 16 with fail
                      have k14s := k145.set_ 9 (.slice none 0 0)
                      have k15r := k15.far (p := ⟨b14, 9, none⟩) (fun e => hne15 e.symm) (.slice none 0 0)
                      have hI6 := hS5.out.imp.grown (grown_setCell (grown_refl v5 (some b14)) (p := ⟨b14, 9, none⟩) (.inl rfl) (.slice none 0 0)) fun q e => (by simp only [Option.some.injEq] at e; subst e; exact ⟨hle14, hne, _, k145⟩)
                      have hlt14b : b14 < (v5.setCell ⟨b14, 9, none⟩ (.slice none 0 0)).heap.size := k14s.lt
                      simp only [List.setIfInBounds_toArray, List.set_cons_zero, List.set_cons_succ] at k14s
                      generalize v5.setCell ⟨b14, 9, none⟩ (.slice none 0 0) = v6 at *
                      obtain ⟨A8, h8, c8, k14r, hs8, hG8, hn8⟩ : ∃ (A8 : Option Addr) (h8 : List Hop) (c8 : Nat), Blk v6 b14 38 #[.int .u32 x0, .int .u8 x1, .int .u32 x2, .int .u8 x3, .int .u8 1, .int .u32 0, .int .u32 x6, .int .u32 x7, .int .u32 x8, .slice A8 h8.length c8] ∧ Sl v6 v6.heap.size 3 (.slice A8 h8.length c8) h8.length (h8.flatMap hopCells) ∧ G = ((⟨x0, x1, x2, x3, 1, 0, y.n.cost, x7, x8⟩, puts (puts [] h8) yh) : WayG) ∧ h8.length ≤ 300000 := ⟨none, [], 0, k14s, Sl.nil _ _ _, by rw [hG, if_pos hlt], by simp⟩
                      clear k14s ef9 k145 hg145 hS5 k15 hHy
                      have hH6 : HopsAt (y, yh) v6 := (hHy3.below hI6.below).more hI6.below.size
                      clear t0 t1 t2 t3 t4 t5 t6 t7 t8 t9 z0 z1 z2 z3 z4 z5 z6 z7 z8 z9 hg0 no hG hlt
                      obtain ⟨hj, hhj⟩ : ∃ hj, hj = puts (puts [] h8) yh := ⟨_, rfl⟩
                      rw [← hhj] at hG8
                      have CJ0 : ∀ W2, Below v6.heap.size v6 W2 → Calls Tryz.prog 53 #[.slice A8 h8.length c8, .slice y.A y.len y.cap] W2 (HopsPost W2 hj) := fun W2 h2 => by rw [hhj]; exact join_any h8 yh _ _ W2 ((hs8.below h2).more h2.size) ((hH6.below h2).more h2.size) (by omega)
                      clear hhj hs8 hH6
                      refine wp_region_inv0 (fun a0 w0 L a' w' => ∃ t85 t86 t87 t88 t89 t90 t91 t92 t93 : Value, a' = (((((((((a0.put (some 85) t85).put (some 86) t86).put (some 87) t87).put (some 88) t88).put (some 89) t89).put (some 90) t90).put (some 91) t91).put (some 92) t92).put (some 93) t93) ∧ v6.grownBy w' (some b14) ∧ (L.getD 8 false = false → Blk w' b14 38 #[.int .u32 x0, .int .u8 x1, .int .u32 x2, .int .u8 x3, .int .u8 1, .int .u32 0, .int .u32 x6, .int .u32 x7, .int .u32 x8, .slice A8 h8.length c8]) ∧ (L.getD 8 false = true → L.getD 10 false = false → Blk w' b14 38 #[.int .u32 x0, .int .u8 x1, .int .u32 x2, .int .u8 x3, .int .u8 1, .int .u32 0, .int .u32 y.n.cost, .int .u32 x7, .int .u32 x8, .slice A8 h8.length c8]) ∧ (L.getD 10 false = true → ∃ A c, t91 = .slice A hj.length c ∧ Blk w' b14 38 #[.int .u32 x0, .int .u8 x1, .int .u32 x2, .int .u8 x3, .int .u8 1, .int .u32 0, .int .u32 y.n.cost, .int .u32 x7, .int .u32 x8, .slice A hj.length c]) ∧ (L.getD 6 false = true → ∃ A c, t91 = .slice A hj.length c ∧ w'.ownsRow v6.heap.size 47 3 (.slice A hj.length c) hj.length (hj.flatMap hopCells)) ∧ (L.getD 8 false = false → Below v6.heap.size v6 w') ∧ (L.getD 8 false = true → L.getD 6 false = true) ∧ (L.getD 8 false = true → L.getD 3 false = true) ∧ (L.getD 10 false = true → L.getD 8 false = true) ∧ (L.getD 0 false = true → t85 = .pointer (some ⟨b15, 6, none⟩)) ∧ (L.getD 1 false = true → t86 = .int .u32 y.n.cost) ∧ (L.getD 2 false = true → t87 = .pointer (some ⟨b14, 9, none⟩)) ∧ (L.getD 3 false = true → t88 = .slice A8 h8.length c8) ∧ (L.getD 4 false = true → t89 = .pointer (some ⟨b15, 9, none⟩)) ∧ (L.getD 5 false = true → t90 = .slice y.A y.len y.cap) ∧ (L.getD 7 false = true → t92 = .pointer (some ⟨b14, 6, none⟩)) ∧ (L.getD 9 false = true → t93 = .pointer (some ⟨b14, 9, none⟩))) hmix (by kernel_rfl) ?_ ?_ ?_
                      · refine ⟨u85, u86, u87, u88, u89, u90, u91, u92, u93, (by first | (simp only [Act.put, List.setIfInBounds_toArray, List.set_cons_zero, List.set_cons_succ]; done) | (simp [Act.put]; done)), grown_drewN (grown_refl _ _) 1, fun _ => k14r, fun h => ?_, fun h => ?_, fun h => ?_, fun _ => (Below.refl _ _).drew, fun h => ?_, fun h => ?_, fun h => ?_, fun h => ?_, fun h => ?_, fun h => ?_, fun h => ?_, fun h => ?_, fun h => ?_, fun h => ?_, fun h => ?_⟩
                        all_goals (simp at h)
                      · rintro L a' w' i hL hi ⟨t85, t86, t87, t88, t89, t90, t91, t92, t93, ha, hg, m0, m8, m10, mv, mb, o8, o3, o10, c85, c86, c87, c88, c89, c90, c92, c93⟩
                        simp only [Act.put, List.setIfInBounds_toArray, List.set_cons_zero, List.set_cons_succ] at ha
                        subst ha
                        have hlt : i < 11 := (ready_mem hi).1
                        have hun := getD_low (ready_mem hi).2
                        have g : ∀ i' j', i' < 11 → (L.setIfInBounds i' true).getD j' false = if j' = i' then true else L.getD j' false := fun i' j' h => getD_set (by rw [hL]; exact h)
                        have k15w : Blk w' b15 38 #[.int .u32 y.n.addr, .int .u8 y.n.bits, .int .u32 y.n.router, .int .u8 y.n.flags, .int .u8 y.n.kind, .int .u32 y.n.area, .int .u32 y.n.cost, .int .u32 y.n.far, .int .u32 y.n.tag, .slice y.A y.len y.cap] := Blk.same k15r (hg.block b15 k15r.lt (by simp only [Option.some.injEq, ne_eq]; omega))
                        have hzw := hg.size
                        rcases (show i = 0 ∨ i = 1 ∨ i = 2 ∨ i = 3 ∨ i = 4 ∨ i = 5 ∨ i = 6 ∨ i = 7 ∨ i = 8 ∨ i = 9 ∨ i = 10 by omega) with rfl | rfl | rfl | rfl | rfl | rfl | rfl | rfl | rfl | rfl | rfl
                        · have haf := ready_after hi rfl
                          simp [Region.binds] at haf
                          clear haf
                          refine wpOp_step rfl (fun K' hK => ?_)
                          replace hK := Lib.hid hK
                          go_wp2
                          exact hK.out _ _ ⟨(.pointer (some ⟨b15, 6, none⟩)), t86, t87, t88, t89, t90, t91, t92, t93, (by first | (simp only [Act.put, List.setIfInBounds_toArray, List.set_cons_zero, List.set_cons_succ]; done) | (simp [Act.put]; done)), hg, (by simpa [g] using m0), (by simpa [g] using m8), (by simpa [g] using m10), (by simpa [g] using mv), (by simpa [g] using mb), (by simpa [g] using o8), (by simpa [g] using o3), (by simpa [g] using o10), (fun _ => rfl), (by simpa [g] using c86), (by simpa [g] using c87), (by simpa [g] using c88), (by simpa [g] using c89), (by simpa [g] using c90), (by simpa [g] using c92), (by simpa [g] using c93)⟩
                        · have haf := ready_after hi rfl
                          simp [Region.binds] at haf
                          obtain rfl := c85 (by simp only [Array.getD_eq_getD_getElem?]; simp only [haf])
                          have hx := k15w.cell 6
                          simp only [List.getElem?_toArray, List.getElem?_cons_zero, List.getElem?_cons_succ] at hx
                          refine wpOp_step rfl (fun K' hK => ?_)
                          replace hK := Lib.hid hK
                          go_wp2
                          exact hK.out _ _ ⟨(.pointer (some ⟨b15, 6, none⟩)), (.int .u32 y.n.cost), t87, t88, t89, t90, t91, t92, t93, (by first | (simp only [Act.put, List.setIfInBounds_toArray, List.set_cons_zero, List.set_cons_succ]; done) | (simp [Act.put]; done)), hg, (by simpa [g] using m0), (by simpa [g] using m8), (by simpa [g] using m10), (by simpa [g] using mv), (by simpa [g] using mb), (by simpa [g] using o8), (by simpa [g] using o3), (by simpa [g] using o10), (fun _ => rfl), (fun _ => rfl), (by simpa [g] using c87), (by simpa [g] using c88), (by simpa [g] using c89), (by simpa [g] using c90), (by simpa [g] using c92), (by simpa [g] using c93)⟩
                        · have haf := ready_after hi rfl
                          simp [Region.binds] at haf
                          clear haf
                          refine wpOp_step rfl (fun K' hK => ?_)
                          replace hK := Lib.hid hK
                          go_wp2
                          exact hK.out _ _ ⟨t85, t86, (.pointer (some ⟨b14, 9, none⟩)), t88, t89, t90, t91, t92, t93, (by first | (simp only [Act.put, List.setIfInBounds_toArray, List.set_cons_zero, List.set_cons_succ]; done) | (simp [Act.put]; done)), hg, (by simpa [g] using m0), (by simpa [g] using m8), (by simpa [g] using m10), (by simpa [g] using mv), (by simpa [g] using mb), (by simpa [g] using o8), (by simpa [g] using o3), (by simpa [g] using o10), (by simpa [g] using c85), (by simpa [g] using c86), (fun _ => rfl), (by simpa [g] using c88), (by simpa [g] using c89), (by simpa [g] using c90), (by simpa [g] using c92), (by simpa [g] using c93)⟩
                        · have haf := ready_after hi rfl
                          simp [Region.binds] at haf
                          obtain rfl := c87 (by simp only [Array.getD_eq_getD_getElem?]; simp only [haf])
                          have hn8 : L.getD 8 false = false := by cases h : L.getD 8 false with | false => rfl | true => (have := o3 h; rw [hun] at this; cases this)
                          have hx := (m0 hn8).cell 9
                          simp only [List.getElem?_toArray, List.getElem?_cons_zero, List.getElem?_cons_succ] at hx
                          refine wpOp_step rfl (fun K' hK => ?_)
                          replace hK := Lib.hid hK
                          go_wp2
                          exact hK.out _ _ ⟨t85, t86, (.pointer (some ⟨b14, 9, none⟩)), (.slice A8 h8.length c8), t89, t90, t91, t92, t93, (by first | (simp only [Act.put, List.setIfInBounds_toArray, List.set_cons_zero, List.set_cons_succ]; done) | (simp [Act.put]; done)), hg, (by simpa [g] using m0), (by simpa [g] using m8), (by simpa [g] using m10), (by simpa [g] using mv), (by simpa [g] using mb), (by simpa [g] using o8), (fun _ => by simp [g]), (by simpa [g] using o10), (by simpa [g] using c85), (by simpa [g] using c86), (fun _ => rfl), (fun _ => rfl), (by simpa [g] using c89), (by simpa [g] using c90), (by simpa [g] using c92), (by simpa [g] using c93)⟩
                        · have haf := ready_after hi rfl
                          simp [Region.binds] at haf
                          clear haf
                          refine wpOp_step rfl (fun K' hK => ?_)
                          replace hK := Lib.hid hK
                          go_wp2
                          exact hK.out _ _ ⟨t85, t86, t87, t88, (.pointer (some ⟨b15, 9, none⟩)), t90, t91, t92, t93, (by first | (simp only [Act.put, List.setIfInBounds_toArray, List.set_cons_zero, List.set_cons_succ]; done) | (simp [Act.put]; done)), hg, (by simpa [g] using m0), (by simpa [g] using m8), (by simpa [g] using m10), (by simpa [g] using mv), (by simpa [g] using mb), (by simpa [g] using o8), (by simpa [g] using o3), (by simpa [g] using o10), (by simpa [g] using c85), (by simpa [g] using c86), (by simpa [g] using c87), (by simpa [g] using c88), (fun _ => rfl), (by simpa [g] using c90), (by simpa [g] using c92), (by simpa [g] using c93)⟩
                        · have haf := ready_after hi rfl
                          simp [Region.binds] at haf
                          obtain rfl := c89 (by simp only [Array.getD_eq_getD_getElem?]; simp only [haf])
                          have hx := k15w.cell 9
                          simp only [List.getElem?_toArray, List.getElem?_cons_zero, List.getElem?_cons_succ] at hx
                          refine wpOp_step rfl (fun K' hK => ?_)
                          replace hK := Lib.hid hK
                          go_wp2
                          exact hK.out _ _ ⟨t85, t86, t87, t88, (.pointer (some ⟨b15, 9, none⟩)), (.slice y.A y.len y.cap), t91, t92, t93, (by first | (simp only [Act.put, List.setIfInBounds_toArray, List.set_cons_zero, List.set_cons_succ]; done) | (simp [Act.put]; done)), hg, (by simpa [g] using m0), (by simpa [g] using m8), (by simpa [g] using m10), (by simpa [g] using mv), (by simpa [g] using mb), (by simpa [g] using o8), (by simpa [g] using o3), (by simpa [g] using o10), (by simpa [g] using c85), (by simpa [g] using c86), (by simpa [g] using c87), (by simpa [g] using c88), (fun _ => rfl), (fun _ => rfl), (by simpa [g] using c92), (by simpa [g] using c93)⟩
                        · have haf := ready_after hi rfl
                          simp [Region.binds] at haf
                          obtain rfl := c88 (by simp only [Array.getD_eq_getD_getElem?]; simp only [haf])
                          obtain rfl := c90 (by simp only [Array.getD_eq_getD_getElem?]; simp only [haf])
                          have hn8 : L.getD 8 false = false := by cases h : L.getD 8 false with | false => rfl | true => (have := o8 h; rw [hun] at this; cases this)
                          have hn10 : L.getD 10 false = false := by cases h : L.getD 10 false with | false => rfl | true => (have := o10 h; rw [hn8] at this; cases this)
                          have CJ := Lib.hid (CJ0 w' (mb hn8))
                          have M0 := Lib.hid (m0 hn8)
                          have MB := Lib.hid (mb hn8)
                          refine wpOp_step rfl (fun K' hK => ?_)
                          replace hK := Lib.hid hK
                          go_wp2_with (go_at_call 53; refine Calls.mono CJ.out ?_; rintro e wj ⟨vj, rfl, hoj, hBj⟩)
                          obtain ⟨-, Aj, cj, rfl, -⟩ := id (Sl.of_own hoj)
                          exact hK.out _ _ ⟨t85, t86, t87, (.slice A8 h8.length c8), t89, (.slice y.A y.len y.cap), (.slice Aj hj.length cj), t92, t93, (by first | (simp only [Act.put, List.setIfInBounds_toArray, List.set_cons_zero, List.set_cons_succ]; done) | (simp [Act.put]; done)), grown_trans hg (grown_of_below hBj _), (fun _ => Blk.call hBj M0.out), (fun h => by rw [g 6 8 (by decide)] at h; simp only [hn8] at h; cases h), (fun h => by rw [g 6 10 (by decide)] at h; simp only [hn10] at h; cases h), (fun _ => ⟨Aj, cj, rfl, own_less hoj hzw⟩), (fun _ => MB.out.trans (hBj.mono hzw)), (fun _ => by simp [g]), (by simpa [g] using o3), (by simpa [g] using o10), (by simpa [g] using c85), (by simpa [g] using c86), (by simpa [g] using c87), (fun _ => rfl), (by simpa [g] using c89), (fun _ => rfl), (by simpa [g] using c92), (by simpa [g] using c93)⟩
                        · have haf := ready_after hi rfl
                          simp [Region.binds] at haf
                          clear haf
                          refine wpOp_step rfl (fun K' hK => ?_)
                          replace hK := Lib.hid hK
                          go_wp2
                          exact hK.out _ _ ⟨t85, t86, t87, t88, t89, t90, t91, (.pointer (some ⟨b14, 6, none⟩)), t93, (by first | (simp only [Act.put, List.setIfInBounds_toArray, List.set_cons_zero, List.set_cons_succ]; done) | (simp [Act.put]; done)), hg, (by simpa [g] using m0), (by simpa [g] using m8), (by simpa [g] using m10), (by simpa [g] using mv), (by simpa [g] using mb), (by simpa [g] using o8), (by simpa [g] using o3), (by simpa [g] using o10), (by simpa [g] using c85), (by simpa [g] using c86), (by simpa [g] using c87), (by simpa [g] using c88), (by simpa [g] using c89), (by simpa [g] using c90), (fun _ => rfl), (by simpa [g] using c93)⟩
                        · have haf := ready_after hi rfl
                          simp [Region.binds] at haf
                          obtain rfl := c85 (by simp only [Array.getD_eq_getD_getElem?]; simp only [haf])
                          obtain rfl := c86 (by simp only [Array.getD_eq_getD_getElem?]; simp only [haf])
                          obtain rfl := c87 (by simp only [Array.getD_eq_getD_getElem?]; simp only [haf])
                          obtain rfl := c88 (by simp only [Array.getD_eq_getD_getElem?]; simp only [haf])
                          obtain rfl := c92 (by simp only [Array.getD_eq_getD_getElem?]; simp only [haf])
                          have hl6 : L.getD 6 false = true := (by simp only [Array.getD_eq_getD_getElem?]; simp only [haf])
                          have hl3 : L.getD 3 false = true := (by simp only [Array.getD_eq_getD_getElem?]; simp only [haf])
                          have hn10 : L.getD 10 false = false := by cases h : L.getD 10 false with | false => rfl | true => (have := o10 h; rw [hun] at this; cases this)
                          obtain ⟨Av, cv, rfl, hov⟩ := mv hl6
                          have kk := m0 hun
                          have f6 := kk.free 6
                          have hx := kk.cell 6
                          simp only [List.getElem?_toArray, List.getElem?_cons_zero, List.getElem?_cons_succ] at hx
                          have kc8 : Blk (w'.setCell ⟨b14, 6, none⟩ (.int .u32 y.n.cost)) b14 38 #[.int .u32 x0, .int .u8 x1, .int .u32 x2, .int .u8 x3, .int .u8 1, .int .u32 0, .int .u32 y.n.cost, .int .u32 x7, .int .u32 x8, .slice A8 h8.length c8] := kk.set_ 6 _
                          have ho8 := own_far hov (p := ⟨b14, 6, none⟩) hlt14b (.int .u32 y.n.cost)
                          have hg8 := grown_setCell hg (p := ⟨b14, 6, none⟩) (.inl rfl) (.int .u32 y.n.cost)
                          replace kc8 := Lib.hid kc8
                          replace ho8 := Lib.hid ho8
                          replace hg8 := Lib.hid hg8
                          clear kk k15w hg m0 mb hov
                          refine wpOp_step rfl (fun K' hK => ?_)
                          replace hK := Lib.hid hK
                          go_wp2
                          exact hK.out _ _ ⟨(.pointer (some ⟨b15, 6, none⟩)), (.int .u32 y.n.cost), (.pointer (some ⟨b14, 9, none⟩)), (.slice A8 h8.length c8), t89, t90, (.slice Av hj.length cv), (.pointer (some ⟨b14, 6, none⟩)), t93, (by first | (simp only [Act.put, List.setIfInBounds_toArray, List.set_cons_zero, List.set_cons_succ]; done) | (simp [Act.put]; done)), hg8.out, (fun h => by simp [g] at h), (fun _ _ => kc8.out), (fun h => by rw [g 8 10 (by decide)] at h; simp only [hn10] at h; cases h), (fun _ => ⟨Av, cv, rfl, ho8.out⟩), (fun h => by simp [g] at h), (fun _ => by rw [g 8 6 (by decide)]; simp only [hl6]; rfl), (fun _ => by rw [g 8 3 (by decide)]; simp only [hl3]; rfl), (fun _ => by simp [g]), (fun _ => rfl), (fun _ => rfl), (fun _ => rfl), (fun _ => rfl), (by simpa [g] using c89), (by simpa [g] using c90), (fun _ => rfl), (by simpa [g] using c93)⟩
                        · have haf := ready_after hi rfl
                          simp [Region.binds] at haf
                          clear haf
                          refine wpOp_step rfl (fun K' hK => ?_)
                          replace hK := Lib.hid hK
                          go_wp2
                          exact hK.out _ _ ⟨t85, t86, t87, t88, t89, t90, t91, t92, (.pointer (some ⟨b14, 9, none⟩)), (by first | (simp only [Act.put, List.setIfInBounds_toArray, List.set_cons_zero, List.set_cons_succ]; done) | (simp [Act.put]; done)), hg, (by simpa [g] using m0), (by simpa [g] using m8), (by simpa [g] using m10), (by simpa [g] using mv), (by simpa [g] using mb), (by simpa [g] using o8), (by simpa [g] using o3), (by simpa [g] using o10), (by simpa [g] using c85), (by simpa [g] using c86), (by simpa [g] using c87), (by simpa [g] using c88), (by simpa [g] using c89), (by simpa [g] using c90), (by simpa [g] using c92), (fun _ => rfl)⟩
                        · have haf := ready_after hi rfl
                          simp [Region.binds] at haf
                          obtain rfl := c85 (by simp only [Array.getD_eq_getD_getElem?]; simp only [haf])
                          obtain rfl := c86 (by simp only [Array.getD_eq_getD_getElem?]; simp only [haf])
                          obtain rfl := c87 (by simp only [Array.getD_eq_getD_getElem?]; simp only [haf])
                          obtain rfl := c88 (by simp only [Array.getD_eq_getD_getElem?]; simp only [haf])
                          obtain rfl := c89 (by simp only [Array.getD_eq_getD_getElem?]; simp only [haf])
                          obtain rfl := c90 (by simp only [Array.getD_eq_getD_getElem?]; simp only [haf])
                          obtain rfl := c92 (by simp only [Array.getD_eq_getD_getElem?]; simp only [haf])
                          obtain rfl := c93 (by simp only [Array.getD_eq_getD_getElem?]; simp only [haf])
                          have hl8 : L.getD 8 false = true := (by simp only [Array.getD_eq_getD_getElem?]; simp only [haf])
                          obtain ⟨Av, cv, rfl, hov⟩ := mv (o8 hl8)
                          have kk := m8 hl8 hun
                          have f9 := kk.free 9
                          have hx := kk.cell 9
                          simp only [List.getElem?_toArray, List.getElem?_cons_zero, List.getElem?_cons_succ] at hx
                          have h10 : Blk (w'.setCell ⟨b14, 9, none⟩ (.slice Av hj.length cv)) b14 38 #[.int .u32 x0, .int .u8 x1, .int .u32 x2, .int .u8 x3, .int .u8 1, .int .u32 0, .int .u32 y.n.cost, .int .u32 x7, .int .u32 x8, .slice Av hj.length cv] := kk.set_ 9 _
                          have ho10 := own_far hov (p := ⟨b14, 9, none⟩) hlt14b (.slice Av hj.length cv)
                          have hg10 := grown_setCell hg (p := ⟨b14, 9, none⟩) (.inl rfl) (.slice Av hj.length cv)
                          replace h10 := Lib.hid h10
                          replace ho10 := Lib.hid ho10
                          replace hg10 := Lib.hid hg10
                          clear kk k15w hg m0 m8 mb hov
                          refine wpOp_step rfl (fun K' hK => ?_)
                          replace hK := Lib.hid hK
                          go_wp2
                          exact hK.out _ _ ⟨(.pointer (some ⟨b15, 6, none⟩)), (.int .u32 y.n.cost), (.pointer (some ⟨b14, 9, none⟩)), (.slice A8 h8.length c8), (.pointer (some ⟨b15, 9, none⟩)), (.slice y.A y.len y.cap), (.slice Av hj.length cv), (.pointer (some ⟨b14, 6, none⟩)), (.pointer (some ⟨b14, 9, none⟩)), (by first | (simp only [Act.put, List.setIfInBounds_toArray, List.set_cons_zero, List.set_cons_succ]; done) | (simp [Act.put]; done)), hg10.out, (fun h => by rw [g 10 8 (by decide)] at h; simp only [hl8] at h; cases h), (fun _ h => by simp [g] at h), (fun _ => ⟨Av, cv, rfl, h10.out⟩), (fun _ => ⟨Av, cv, rfl, ho10.out⟩), (fun h => by rw [g 10 8 (by decide)] at h; simp only [hl8] at h; cases h), (by simpa [g] using o8), (by simpa [g] using o3), (fun _ => by rw [g 10 8 (by decide)]; simp only [hl8]; rfl), (fun _ => rfl), (fun _ => rfl), (fun _ => rfl), (fun _ => rfl), (fun _ => rfl), (fun _ => rfl), (fun _ => rfl), (fun _ => rfl)⟩
                      · rintro L a' w' hall ⟨t85, t86, t87, t88, t89, t90, t91, t92, t93, ha, hg, m0, m8, m10, mv, mb, o8, o3, o10, c85, c86, c87, c88, c89, c90, c92, c93⟩
                        obtain ⟨Aj, cj, rfl, kj⟩ := m10 (hall 10 (by decide))
                        obtain ⟨Aj2, cj2, he, hoj⟩ := mv (hall 6 (by decide))
                        obtain ⟨rfl, -, rfl⟩ := by simpa using he
                        simp only [Act.put, List.setIfInBounds_toArray, List.set_cons_zero, List.set_cons_succ] at ha
                        subst ha
                        clear m0 m8 m10 mv mb o8 o3 o10 c85 c86 c87 c88 c89 c90 c92 c93
                        go_wp2_with fail
                        go_meet
                        case rel =>
                          rw [hG8]
                          refine ⟨⟨Aj, cj, kj, own_less hoj (hI6.below.size)⟩, hI6.grown hg (fun q e => ?_), hle14, hne⟩
                          simp only [Option.some.injEq] at e
                          subst e
                          exact ⟨hle14, hne, _, k14r⟩
                    · go_upto_region 16 with fail
                      have k15r := k15
                      have hI6 := hS5.out.imp
                      have hlt14b := k145.lt
                      obtain ⟨v6, rfl⟩ : ∃ x : World, x = v5 := ⟨_, rfl⟩
                      obtain ⟨A8, h8, c8, k14r, hs8, hG8, hn8⟩ : ∃ (A8 : Option Addr) (h8 : List Hop) (c8 : Nat), Blk v6 b14 38 #[.int .u32 x0, .int .u8 x1, .int .u32 x2, .int .u8 x3, .int .u8 1, .int .u32 0, .int .u32 x6, .int .u32 x7, .int .u32 x8, .slice A8 h8.length c8] ∧ Sl v6 v6.heap.size 3 (.slice A8 h8.length c8) h8.length (h8.flatMap hopCells) ∧ G = ((⟨x0, x1, x2, x3, 1, 0, y.n.cost, x7, x8⟩, puts (puts [] h8) yh) : WayG) ∧ h8.length ≤ 300000 := ⟨A9, gh, c9, k145, Sl.of_own hg145, by rw [hG, if_neg (show ¬ y.n.cost < x6 by omega)], hgh⟩
                      clear ef9 k145 hg145 hS5 k15 hHy
                      have hH6 : HopsAt (y, yh) v6 := (hHy3.below hI6.below).more hI6.below.size
                      clear t0 t1 t2 t3 t4 t5 t6 t7 t8 t9 z0 z1 z2 z3 z4 z5 z6 z7 z8 z9 hg0 no hG hlt
                      obtain ⟨hj, hhj⟩ : ∃ hj, hj = puts (puts [] h8) yh := ⟨_, rfl⟩
                      rw [← hhj] at hG8
                      have CJ0 : ∀ W2, Below v6.heap.size v6 W2 → Calls Tryz.prog 53 #[.slice A8 h8.length c8, .slice y.A y.len y.cap] W2 (HopsPost W2 hj) := fun W2 h2 => by rw [hhj]; exact join_any h8 yh _ _ W2 ((hs8.below h2).more h2.size) ((hH6.below h2).more h2.size) (by omega)
                      clear hhj hs8 hH6
                      refine wp_region_inv0 (fun a0 w0 L a' w' => ∃ t85 t86 t87 t88 t89 t90 t91 t92 t93 : Value, a' = (((((((((a0.put (some 85) t85).put (some 86) t86).put (some 87) t87).put (some 88) t88).put (some 89) t89).put (some 90) t90).put (some 91) t91).put (some 92) t92).put (some 93) t93) ∧ v6.grownBy w' (some b14) ∧ (L.getD 8 false = false → Blk w' b14 38 #[.int .u32 x0, .int .u8 x1, .int .u32 x2, .int .u8 x3, .int .u8 1, .int .u32 0, .int .u32 x6, .int .u32 x7, .int .u32 x8, .slice A8 h8.length c8]) ∧ (L.getD 8 false = true → L.getD 10 false = false → Blk w' b14 38 #[.int .u32 x0, .int .u8 x1, .int .u32 x2, .int .u8 x3, .int .u8 1, .int .u32 0, .int .u32 y.n.cost, .int .u32 x7, .int .u32 x8, .slice A8 h8.length c8]) ∧ (L.getD 10 false = true → ∃ A c, t91 = .slice A hj.length c ∧ Blk w' b14 38 #[.int .u32 x0, .int .u8 x1, .int .u32 x2, .int .u8 x3, .int .u8 1, .int .u32 0, .int .u32 y.n.cost, .int .u32 x7, .int .u32 x8, .slice A hj.length c]) ∧ (L.getD 6 false = true → ∃ A c, t91 = .slice A hj.length c ∧ w'.ownsRow v6.heap.size 47 3 (.slice A hj.length c) hj.length (hj.flatMap hopCells)) ∧ (L.getD 8 false = false → Below v6.heap.size v6 w') ∧ (L.getD 8 false = true → L.getD 6 false = true) ∧ (L.getD 8 false = true → L.getD 3 false = true) ∧ (L.getD 10 false = true → L.getD 8 false = true) ∧ (L.getD 0 false = true → t85 = .pointer (some ⟨b15, 6, none⟩)) ∧ (L.getD 1 false = true → t86 = .int .u32 y.n.cost) ∧ (L.getD 2 false = true → t87 = .pointer (some ⟨b14, 9, none⟩)) ∧ (L.getD 3 false = true → t88 = .slice A8 h8.length c8) ∧ (L.getD 4 false = true → t89 = .pointer (some ⟨b15, 9, none⟩)) ∧ (L.getD 5 false = true → t90 = .slice y.A y.len y.cap) ∧ (L.getD 7 false = true → t92 = .pointer (some ⟨b14, 6, none⟩)) ∧ (L.getD 9 false = true → t93 = .pointer (some ⟨b14, 9, none⟩))) hmix (by kernel_rfl) ?_ ?_ ?_
                      · refine ⟨u85, u86, u87, u88, u89, u90, u91, u92, u93, (by first | (simp only [Act.put, List.setIfInBounds_toArray, List.set_cons_zero, List.set_cons_succ]; done) | (simp [Act.put]; done)), grown_drewN (grown_refl _ _) 1, fun _ => k14r, fun h => ?_, fun h => ?_, fun h => ?_, fun _ => (Below.refl _ _).drew, fun h => ?_, fun h => ?_, fun h => ?_, fun h => ?_, fun h => ?_, fun h => ?_, fun h => ?_, fun h => ?_, fun h => ?_, fun h => ?_, fun h => ?_⟩
                        all_goals (simp at h)
                      · rintro L a' w' i hL hi ⟨t85, t86, t87, t88, t89, t90, t91, t92, t93, ha, hg, m0, m8, m10, mv, mb, o8, o3, o10, c85, c86, c87, c88, c89, c90, c92, c93⟩
                        simp only [Act.put, List.setIfInBounds_toArray, List.set_cons_zero, List.set_cons_succ] at ha
                        subst ha
                        have hlt : i < 11 := (ready_mem hi).1
                        have hun := getD_low (ready_mem hi).2
                        have g : ∀ i' j', i' < 11 → (L.setIfInBounds i' true).getD j' false = if j' = i' then true else L.getD j' false := fun i' j' h => getD_set (by rw [hL]; exact h)
                        have k15w : Blk w' b15 38 #[.int .u32 y.n.addr, .int .u8 y.n.bits, .int .u32 y.n.router, .int .u8 y.n.flags, .int .u8 y.n.kind, .int .u32 y.n.area, .int .u32 y.n.cost, .int .u32 y.n.far, .int .u32 y.n.tag, .slice y.A y.len y.cap] := Blk.same k15r (hg.block b15 k15r.lt (by simp only [Option.some.injEq, ne_eq]; omega))
                        have hzw := hg.size
                        rcases (show i = 0 ∨ i = 1 ∨ i = 2 ∨ i = 3 ∨ i = 4 ∨ i = 5 ∨ i = 6 ∨ i = 7 ∨ i = 8 ∨ i = 9 ∨ i = 10 by omega) with rfl | rfl | rfl | rfl | rfl | rfl | rfl | rfl | rfl | rfl | rfl
                        · have haf := ready_after hi rfl
                          simp [Region.binds] at haf
                          clear haf
                          refine wpOp_step rfl (fun K' hK => ?_)
                          replace hK := Lib.hid hK
                          go_wp2
                          exact hK.out _ _ ⟨(.pointer (some ⟨b15, 6, none⟩)), t86, t87, t88, t89, t90, t91, t92, t93, (by first | (simp only [Act.put, List.setIfInBounds_toArray, List.set_cons_zero, List.set_cons_succ]; done) | (simp [Act.put]; done)), hg, (by simpa [g] using m0), (by simpa [g] using m8), (by simpa [g] using m10), (by simpa [g] using mv), (by simpa [g] using mb), (by simpa [g] using o8), (by simpa [g] using o3), (by simpa [g] using o10), (fun _ => rfl), (by simpa [g] using c86), (by simpa [g] using c87), (by simpa [g] using c88), (by simpa [g] using c89), (by simpa [g] using c90), (by simpa [g] using c92), (by simpa [g] using c93)⟩
                        · have haf := ready_after hi rfl
                          simp [Region.binds] at haf
                          obtain rfl := c85 (by simp only [Array.getD_eq_getD_getElem?]; simp only [haf])
                          have hx := k15w.cell 6
                          simp only [List.getElem?_toArray, List.getElem?_cons_zero, List.getElem?_cons_succ] at hx
                          refine wpOp_step rfl (fun K' hK => ?_)
                          replace hK := Lib.hid hK
                          go_wp2
                          exact hK.out _ _ ⟨(.pointer (some ⟨b15, 6, none⟩)), (.int .u32 y.n.cost), t87, t88, t89, t90, t91, t92, t93, (by first | (simp only [Act.put, List.setIfInBounds_toArray, List.set_cons_zero, List.set_cons_succ]; done) | (simp [Act.put]; done)), hg, (by simpa [g] using m0), (by simpa [g] using m8), (by simpa [g] using m10), (by simpa [g] using mv), (by simpa [g] using mb), (by simpa [g] using o8), (by simpa [g] using o3), (by simpa [g] using o10), (fun _ => rfl), (fun _ => rfl), (by simpa [g] using c87), (by simpa [g] using c88), (by simpa [g] using c89), (by simpa [g] using c90), (by simpa [g] using c92), (by simpa [g] using c93)⟩
                        · have haf := ready_after hi rfl
                          simp [Region.binds] at haf
                          clear haf
                          refine wpOp_step rfl (fun K' hK => ?_)
                          replace hK := Lib.hid hK
                          go_wp2
                          exact hK.out _ _ ⟨t85, t86, (.pointer (some ⟨b14, 9, none⟩)), t88, t89, t90, t91, t92, t93, (by first | (simp only [Act.put, List.setIfInBounds_toArray, List.set_cons_zero, List.set_cons_succ]; done) | (simp [Act.put]; done)), hg, (by simpa [g] using m0), (by simpa [g] using m8), (by simpa [g] using m10), (by simpa [g] using mv), (by simpa [g] using mb), (by simpa [g] using o8), (by simpa [g] using o3), (by simpa [g] using o10), (by simpa [g] using c85), (by simpa [g] using c86), (fun _ => rfl), (by simpa [g] using c88), (by simpa [g] using c89), (by simpa [g] using c90), (by simpa [g] using c92), (by simpa [g] using c93)⟩
                        · have haf := ready_after hi rfl
                          simp [Region.binds] at haf
                          obtain rfl := c87 (by simp only [Array.getD_eq_getD_getElem?]; simp only [haf])
                          have hn8 : L.getD 8 false = false := by cases h : L.getD 8 false with | false => rfl | true => (have := o3 h; rw [hun] at this; cases this)
                          have hx := (m0 hn8).cell 9
                          simp only [List.getElem?_toArray, List.getElem?_cons_zero, List.getElem?_cons_succ] at hx
                          refine wpOp_step rfl (fun K' hK => ?_)
                          replace hK := Lib.hid hK
                          go_wp2
                          exact hK.out _ _ ⟨t85, t86, (.pointer (some ⟨b14, 9, none⟩)), (.slice A8 h8.length c8), t89, t90, t91, t92, t93, (by first | (simp only [Act.put, List.setIfInBounds_toArray, List.set_cons_zero, List.set_cons_succ]; done) | (simp [Act.put]; done)), hg, (by simpa [g] using m0), (by simpa [g] using m8), (by simpa [g] using m10), (by simpa [g] using mv), (by simpa [g] using mb), (by simpa [g] using o8), (fun _ => by simp [g]), (by simpa [g] using o10), (by simpa [g] using c85), (by simpa [g] using c86), (fun _ => rfl), (fun _ => rfl), (by simpa [g] using c89), (by simpa [g] using c90), (by simpa [g] using c92), (by simpa [g] using c93)⟩
                        · have haf := ready_after hi rfl
                          simp [Region.binds] at haf
                          clear haf
                          refine wpOp_step rfl (fun K' hK => ?_)
                          replace hK := Lib.hid hK
                          go_wp2
                          exact hK.out _ _ ⟨t85, t86, t87, t88, (.pointer (some ⟨b15, 9, none⟩)), t90, t91, t92, t93, (by first | (simp only [Act.put, List.setIfInBounds_toArray, List.set_cons_zero, List.set_cons_succ]; done) | (simp [Act.put]; done)), hg, (by simpa [g] using m0), (by simpa [g] using m8), (by simpa [g] using m10), (by simpa [g] using mv), (by simpa [g] using mb), (by simpa [g] using o8), (by simpa [g] using o3), (by simpa [g] using o10), (by simpa [g] using c85), (by simpa [g] using c86), (by simpa [g] using c87), (by simpa [g] using c88), (fun _ => rfl), (by simpa [g] using c90), (by simpa [g] using c92), (by simpa [g] using c93)⟩
                        · have haf := ready_after hi rfl
                          simp [Region.binds] at haf
                          obtain rfl := c89 (by simp only [Array.getD_eq_getD_getElem?]; simp only [haf])
                          have hx := k15w.cell 9
                          simp only [List.getElem?_toArray, List.getElem?_cons_zero, List.getElem?_cons_succ] at hx
                          refine wpOp_step rfl (fun K' hK => ?_)
                          replace hK := Lib.hid hK
                          go_wp2
                          exact hK.out _ _ ⟨t85, t86, t87, t88, (.pointer (some ⟨b15, 9, none⟩)), (.slice y.A y.len y.cap), t91, t92, t93, (by first | (simp only [Act.put, List.setIfInBounds_toArray, List.set_cons_zero, List.set_cons_succ]; done) | (simp [Act.put]; done)), hg, (by simpa [g] using m0), (by simpa [g] using m8), (by simpa [g] using m10), (by simpa [g] using mv), (by simpa [g] using mb), (by simpa [g] using o8), (by simpa [g] using o3), (by simpa [g] using o10), (by simpa [g] using c85), (by simpa [g] using c86), (by simpa [g] using c87), (by simpa [g] using c88), (fun _ => rfl), (fun _ => rfl), (by simpa [g] using c92), (by simpa [g] using c93)⟩
                        · have haf := ready_after hi rfl
                          simp [Region.binds] at haf
                          obtain rfl := c88 (by simp only [Array.getD_eq_getD_getElem?]; simp only [haf])
                          obtain rfl := c90 (by simp only [Array.getD_eq_getD_getElem?]; simp only [haf])
                          have hn8 : L.getD 8 false = false := by cases h : L.getD 8 false with | false => rfl | true => (have := o8 h; rw [hun] at this; cases this)
                          have hn10 : L.getD 10 false = false := by cases h : L.getD 10 false with | false => rfl | true => (have := o10 h; rw [hn8] at this; cases this)
                          have CJ := Lib.hid (CJ0 w' (mb hn8))
                          have M0 := Lib.hid (m0 hn8)
                          have MB := Lib.hid (mb hn8)
                          refine wpOp_step rfl (fun K' hK => ?_)
                          replace hK := Lib.hid hK
                          go_wp2_with (go_at_call 53; refine Calls.mono CJ.out ?_; rintro e wj ⟨vj, rfl, hoj, hBj⟩)
                          obtain ⟨-, Aj, cj, rfl, -⟩ := id (Sl.of_own hoj)
                          exact hK.out _ _ ⟨t85, t86, t87, (.slice A8 h8.length c8), t89, (.slice y.A y.len y.cap), (.slice Aj hj.length cj), t92, t93, (by first | (simp only [Act.put, List.setIfInBounds_toArray, List.set_cons_zero, List.set_cons_succ]; done) | (simp [Act.put]; done)), grown_trans hg (grown_of_below hBj _), (fun _ => Blk.call hBj M0.out), (fun h => by rw [g 6 8 (by decide)] at h; simp only [hn8] at h; cases h), (fun h => by rw [g 6 10 (by decide)] at h; simp only [hn10] at h; cases h), (fun _ => ⟨Aj, cj, rfl, own_less hoj hzw⟩), (fun _ => MB.out.trans (hBj.mono hzw)), (fun _ => by simp [g]), (by simpa [g] using o3), (by simpa [g] using o10), (by simpa [g] using c85), (by simpa [g] using c86), (by simpa [g] using c87), (fun _ => rfl), (by simpa [g] using c89), (fun _ => rfl), (by simpa [g] using c92), (by simpa [g] using c93)⟩
                        · have haf := ready_after hi rfl
                          simp [Region.binds] at haf
                          clear haf
                          refine wpOp_step rfl (fun K' hK => ?_)
                          replace hK := Lib.hid hK
                          go_wp2
                          exact hK.out _ _ ⟨t85, t86, t87, t88, t89, t90, t91, (.pointer (some ⟨b14, 6, none⟩)), t93, (by first | (simp only [Act.put, List.setIfInBounds_toArray, List.set_cons_zero, List.set_cons_succ]; done) | (simp [Act.put]; done)), hg, (by simpa [g] using m0), (by simpa [g] using m8), (by simpa [g] using m10), (by simpa [g] using mv), (by simpa [g] using mb), (by simpa [g] using o8), (by simpa [g] using o3), (by simpa [g] using o10), (by simpa [g] using c85), (by simpa [g] using c86), (by simpa [g] using c87), (by simpa [g] using c88), (by simpa [g] using c89), (by simpa [g] using c90), (fun _ => rfl), (by simpa [g] using c93)⟩
                        · have haf := ready_after hi rfl
                          simp [Region.binds] at haf
                          obtain rfl := c85 (by simp only [Array.getD_eq_getD_getElem?]; simp only [haf])
                          obtain rfl := c86 (by simp only [Array.getD_eq_getD_getElem?]; simp only [haf])
                          obtain rfl := c87 (by simp only [Array.getD_eq_getD_getElem?]; simp only [haf])
                          obtain rfl := c88 (by simp only [Array.getD_eq_getD_getElem?]; simp only [haf])
                          obtain rfl := c92 (by simp only [Array.getD_eq_getD_getElem?]; simp only [haf])
                          have hl6 : L.getD 6 false = true := (by simp only [Array.getD_eq_getD_getElem?]; simp only [haf])
                          have hl3 : L.getD 3 false = true := (by simp only [Array.getD_eq_getD_getElem?]; simp only [haf])
                          have hn10 : L.getD 10 false = false := by cases h : L.getD 10 false with | false => rfl | true => (have := o10 h; rw [hun] at this; cases this)
                          obtain ⟨Av, cv, rfl, hov⟩ := mv hl6
                          have kk := m0 hun
                          have f6 := kk.free 6
                          have hx := kk.cell 6
                          simp only [List.getElem?_toArray, List.getElem?_cons_zero, List.getElem?_cons_succ] at hx
                          have kc8 : Blk (w'.setCell ⟨b14, 6, none⟩ (.int .u32 y.n.cost)) b14 38 #[.int .u32 x0, .int .u8 x1, .int .u32 x2, .int .u8 x3, .int .u8 1, .int .u32 0, .int .u32 y.n.cost, .int .u32 x7, .int .u32 x8, .slice A8 h8.length c8] := kk.set_ 6 _
                          have ho8 := own_far hov (p := ⟨b14, 6, none⟩) hlt14b (.int .u32 y.n.cost)
                          have hg8 := grown_setCell hg (p := ⟨b14, 6, none⟩) (.inl rfl) (.int .u32 y.n.cost)
                          replace kc8 := Lib.hid kc8
                          replace ho8 := Lib.hid ho8
                          replace hg8 := Lib.hid hg8
                          clear kk k15w hg m0 mb hov
                          refine wpOp_step rfl (fun K' hK => ?_)
                          replace hK := Lib.hid hK
                          go_wp2
                          exact hK.out _ _ ⟨(.pointer (some ⟨b15, 6, none⟩)), (.int .u32 y.n.cost), (.pointer (some ⟨b14, 9, none⟩)), (.slice A8 h8.length c8), t89, t90, (.slice Av hj.length cv), (.pointer (some ⟨b14, 6, none⟩)), t93, (by first | (simp only [Act.put, List.setIfInBounds_toArray, List.set_cons_zero, List.set_cons_succ]; done) | (simp [Act.put]; done)), hg8.out, (fun h => by simp [g] at h), (fun _ _ => kc8.out), (fun h => by rw [g 8 10 (by decide)] at h; simp only [hn10] at h; cases h), (fun _ => ⟨Av, cv, rfl, ho8.out⟩), (fun h => by simp [g] at h), (fun _ => by rw [g 8 6 (by decide)]; simp only [hl6]; rfl), (fun _ => by rw [g 8 3 (by decide)]; simp only [hl3]; rfl), (fun _ => by simp [g]), (fun _ => rfl), (fun _ => rfl), (fun _ => rfl), (fun _ => rfl), (by simpa [g] using c89), (by simpa [g] using c90), (fun _ => rfl), (by simpa [g] using c93)⟩
                        · have haf := ready_after hi rfl
                          simp [Region.binds] at haf
                          clear haf
                          refine wpOp_step rfl (fun K' hK => ?_)
                          replace hK := Lib.hid hK
                          go_wp2
                          exact hK.out _ _ ⟨t85, t86, t87, t88, t89, t90, t91, t92, (.pointer (some ⟨b14, 9, none⟩)), (by first | (simp only [Act.put, List.setIfInBounds_toArray, List.set_cons_zero, List.set_cons_succ]; done) | (simp [Act.put]; done)), hg, (by simpa [g] using m0), (by simpa [g] using m8), (by simpa [g] using m10), (by simpa [g] using mv), (by simpa [g] using mb), (by simpa [g] using o8), (by simpa [g] using o3), (by simpa [g] using o10), (by simpa [g] using c85), (by simpa [g] using c86), (by simpa [g] using c87), (by simpa [g] using c88), (by simpa [g] using c89), (by simpa [g] using c90), (by simpa [g] using c92), (fun _ => rfl)⟩
                        · have haf := ready_after hi rfl
                          simp [Region.binds] at haf
                          obtain rfl := c85 (by simp only [Array.getD_eq_getD_getElem?]; simp only [haf])
                          obtain rfl := c86 (by simp only [Array.getD_eq_getD_getElem?]; simp only [haf])
                          obtain rfl := c87 (by simp only [Array.getD_eq_getD_getElem?]; simp only [haf])
                          obtain rfl := c88 (by simp only [Array.getD_eq_getD_getElem?]; simp only [haf])
                          obtain rfl := c89 (by simp only [Array.getD_eq_getD_getElem?]; simp only [haf])
                          obtain rfl := c90 (by simp only [Array.getD_eq_getD_getElem?]; simp only [haf])
                          obtain rfl := c92 (by simp only [Array.getD_eq_getD_getElem?]; simp only [haf])
                          obtain rfl := c93 (by simp only [Array.getD_eq_getD_getElem?]; simp only [haf])
                          have hl8 : L.getD 8 false = true := (by simp only [Array.getD_eq_getD_getElem?]; simp only [haf])
                          obtain ⟨Av, cv, rfl, hov⟩ := mv (o8 hl8)
                          have kk := m8 hl8 hun
                          have f9 := kk.free 9
                          have hx := kk.cell 9
                          simp only [List.getElem?_toArray, List.getElem?_cons_zero, List.getElem?_cons_succ] at hx
                          have h10 : Blk (w'.setCell ⟨b14, 9, none⟩ (.slice Av hj.length cv)) b14 38 #[.int .u32 x0, .int .u8 x1, .int .u32 x2, .int .u8 x3, .int .u8 1, .int .u32 0, .int .u32 y.n.cost, .int .u32 x7, .int .u32 x8, .slice Av hj.length cv] := kk.set_ 9 _
                          have ho10 := own_far hov (p := ⟨b14, 9, none⟩) hlt14b (.slice Av hj.length cv)
                          have hg10 := grown_setCell hg (p := ⟨b14, 9, none⟩) (.inl rfl) (.slice Av hj.length cv)
                          replace h10 := Lib.hid h10
                          replace ho10 := Lib.hid ho10
                          replace hg10 := Lib.hid hg10
                          clear kk k15w hg m0 m8 mb hov
                          refine wpOp_step rfl (fun K' hK => ?_)
                          replace hK := Lib.hid hK
                          go_wp2
                          exact hK.out _ _ ⟨(.pointer (some ⟨b15, 6, none⟩)), (.int .u32 y.n.cost), (.pointer (some ⟨b14, 9, none⟩)), (.slice A8 h8.length c8), (.pointer (some ⟨b15, 9, none⟩)), (.slice y.A y.len y.cap), (.slice Av hj.length cv), (.pointer (some ⟨b14, 6, none⟩)), (.pointer (some ⟨b14, 9, none⟩)), (by first | (simp only [Act.put, List.setIfInBounds_toArray, List.set_cons_zero, List.set_cons_succ]; done) | (simp [Act.put]; done)), hg10.out, (fun h => by rw [g 10 8 (by decide)] at h; simp only [hl8] at h; cases h), (fun _ h => by simp [g] at h), (fun _ => ⟨Av, cv, rfl, h10.out⟩), (fun _ => ⟨Av, cv, rfl, ho10.out⟩), (fun h => by rw [g 10 8 (by decide)] at h; simp only [hl8] at h; cases h), (by simpa [g] using o8), (by simpa [g] using o3), (fun _ => by rw [g 10 8 (by decide)]; simp only [hl8]; rfl), (fun _ => rfl), (fun _ => rfl), (fun _ => rfl), (fun _ => rfl), (fun _ => rfl), (fun _ => rfl), (fun _ => rfl), (fun _ => rfl)⟩
                      · rintro L a' w' hall ⟨t85, t86, t87, t88, t89, t90, t91, t92, t93, ha, hg, m0, m8, m10, mv, mb, o8, o3, o10, c85, c86, c87, c88, c89, c90, c92, c93⟩
                        obtain ⟨Aj, cj, rfl, kj⟩ := m10 (hall 10 (by decide))
                        obtain ⟨Aj2, cj2, he, hoj⟩ := mv (hall 6 (by decide))
                        obtain ⟨rfl, -, rfl⟩ := by simpa using he
                        simp only [Act.put, List.setIfInBounds_toArray, List.set_cons_zero, List.set_cons_succ] at ha
                        subst ha
                        clear m0 m8 m10 mv mb o8 o3 o10 c85 c86 c87 c88 c89 c90 c92 c93
                        go_wp2_with fail
                        go_meet
                        case rel =>
                          rw [hG8]
                          refine ⟨⟨Aj, cj, kj, own_less hoj (hI6.below.size)⟩, hI6.grown hg (fun q e => ?_), hle14, hne⟩
                          simp only [Option.some.injEq] at e
                          subst e
                          exact ⟨hle14, hne, _, k14r⟩
                  · have hkk : ¬ ((2 : Int) = 1) := by decide
                    by_cases hlt : y.n.cost < x6
                    · go_upto_region 16 with fail
                      have k14s := k145.set_ 9 (.slice none 0 0)
                      have k15r := k15.far (p := ⟨b14, 9, none⟩) (fun e => hne15 e.symm) (.slice none 0 0)
                      have hI6 := hS5.out.imp.grown (grown_setCell (grown_refl v5 (some b14)) (p := ⟨b14, 9, none⟩) (.inl rfl) (.slice none 0 0)) fun q e => (by simp only [Option.some.injEq] at e; subst e; exact ⟨hle14, hne, _, k145⟩)
                      have hlt14b : b14 < (v5.setCell ⟨b14, 9, none⟩ (.slice none 0 0)).heap.size := k14s.lt
                      simp only [List.setIfInBounds_toArray, List.set_cons_zero, List.set_cons_succ] at k14s
                      generalize v5.setCell ⟨b14, 9, none⟩ (.slice none 0 0) = v6 at *
                      obtain ⟨A8, h8, c8, k14r, hs8, hG8, hn8⟩ : ∃ (A8 : Option Addr) (h8 : List Hop) (c8 : Nat), Blk v6 b14 38 #[.int .u32 x0, .int .u8 x1, .int .u32 x2, .int .u8 x3, .int .u8 2, .int .u32 0, .int .u32 x6, .int .u32 x7, .int .u32 x8, .slice A8 h8.length c8] ∧ Sl v6 v6.heap.size 3 (.slice A8 h8.length c8) h8.length (h8.flatMap hopCells) ∧ G = ((⟨x0, x1, x2, x3, 2, 0, y.n.cost, x7, x8⟩, puts (puts [] h8) yh) : WayG) ∧ h8.length ≤ 300000 := ⟨none, [], 0, k14s, Sl.nil _ _ _, by rw [hG, if_pos hlt], by simp⟩
                      clear k14s ef9 k145 hg145 hS5 k15 hHy
                      have hH6 : HopsAt (y, yh) v6 := (hHy3.below hI6.below).more hI6.below.size
                      clear t0 t1 t2 t3 t4 t5 t6 t7 t8 t9 z0 z1 z2 z3 z4 z5 z6 z7 z8 z9 hg0 no hG hlt
                      obtain ⟨hj, hhj⟩ : ∃ hj, hj = puts (puts [] h8) yh := ⟨_, rfl⟩
                      rw [← hhj] at hG8
                      have CJ0 : ∀ W2, Below v6.heap.size v6 W2 → Calls Tryz.prog 53 #[.slice A8 h8.length c8, .slice y.A y.len y.cap] W2 (HopsPost W2 hj) := fun W2 h2 => by rw [hhj]; exact join_any h8 yh _ _ W2 ((hs8.below h2).more h2.size) ((hH6.below h2).more h2.size) (by omega)
                      clear hhj hs8 hH6
                      refine wp_region_inv0 (fun a0 w0 L a' w' => ∃ t85 t86 t87 t88 t89 t90 t91 t92 t93 : Value, a' = (((((((((a0.put (some 85) t85).put (some 86) t86).put (some 87) t87).put (some 88) t88).put (some 89) t89).put (some 90) t90).put (some 91) t91).put (some 92) t92).put (some 93) t93) ∧ v6.grownBy w' (some b14) ∧ (L.getD 8 false = false → Blk w' b14 38 #[.int .u32 x0, .int .u8 x1, .int .u32 x2, .int .u8 x3, .int .u8 2, .int .u32 0, .int .u32 x6, .int .u32 x7, .int .u32 x8, .slice A8 h8.length c8]) ∧ (L.getD 8 false = true → L.getD 10 false = false → Blk w' b14 38 #[.int .u32 x0, .int .u8 x1, .int .u32 x2, .int .u8 x3, .int .u8 2, .int .u32 0, .int .u32 y.n.cost, .int .u32 x7, .int .u32 x8, .slice A8 h8.length c8]) ∧ (L.getD 10 false = true → ∃ A c, t91 = .slice A hj.length c ∧ Blk w' b14 38 #[.int .u32 x0, .int .u8 x1, .int .u32 x2, .int .u8 x3, .int .u8 2, .int .u32 0, .int .u32 y.n.cost, .int .u32 x7, .int .u32 x8, .slice A hj.length c]) ∧ (L.getD 6 false = true → ∃ A c, t91 = .slice A hj.length c ∧ w'.ownsRow v6.heap.size 47 3 (.slice A hj.length c) hj.length (hj.flatMap hopCells)) ∧ (L.getD 8 false = false → Below v6.heap.size v6 w') ∧ (L.getD 8 false = true → L.getD 6 false = true) ∧ (L.getD 8 false = true → L.getD 3 false = true) ∧ (L.getD 10 false = true → L.getD 8 false = true) ∧ (L.getD 0 false = true → t85 = .pointer (some ⟨b15, 6, none⟩)) ∧ (L.getD 1 false = true → t86 = .int .u32 y.n.cost) ∧ (L.getD 2 false = true → t87 = .pointer (some ⟨b14, 9, none⟩)) ∧ (L.getD 3 false = true → t88 = .slice A8 h8.length c8) ∧ (L.getD 4 false = true → t89 = .pointer (some ⟨b15, 9, none⟩)) ∧ (L.getD 5 false = true → t90 = .slice y.A y.len y.cap) ∧ (L.getD 7 false = true → t92 = .pointer (some ⟨b14, 6, none⟩)) ∧ (L.getD 9 false = true → t93 = .pointer (some ⟨b14, 9, none⟩))) hmix (by kernel_rfl) ?_ ?_ ?_
                      · refine ⟨u85, u86, u87, u88, u89, u90, u91, u92, u93, (by first | (simp only [Act.put, List.setIfInBounds_toArray, List.set_cons_zero, List.set_cons_succ]; done) | (simp [Act.put]; done)), grown_drewN (grown_refl _ _) 1, fun _ => k14r, fun h => ?_, fun h => ?_, fun h => ?_, fun _ => (Below.refl _ _).drew, fun h => ?_, fun h => ?_, fun h => ?_, fun h => ?_, fun h => ?_, fun h => ?_, fun h => ?_, fun h => ?_, fun h => ?_, fun h => ?_, fun h => ?_⟩
                        all_goals (simp at h)
                      · rintro L a' w' i hL hi ⟨t85, t86, t87, t88, t89, t90, t91, t92, t93, ha, hg, m0, m8, m10, mv, mb, o8, o3, o10, c85, c86, c87, c88, c89, c90, c92, c93⟩
                        simp only [Act.put, List.setIfInBounds_toArray, List.set_cons_zero, List.set_cons_succ] at ha
                        subst ha
                        have hlt : i < 11 := (ready_mem hi).1
                        have hun := getD_low (ready_mem hi).2
                        have g : ∀ i' j', i' < 11 → (L.setIfInBounds i' true).getD j' false = if j' = i' then true else L.getD j' false := fun i' j' h => getD_set (by rw [hL]; exact h)
                        have k15w : Blk w' b15 38 #[.int .u32 y.n.addr, .int .u8 y.n.bits, .int .u32 y.n.router, .int .u8 y.n.flags, .int .u8 y.n.kind, .int .u32 y.n.area, .int .u32 y.n.cost, .int .u32 y.n.far, .int .u32 y.n.tag, .slice y.A y.len y.cap] := Blk.same k15r (hg.block b15 k15r.lt (by simp only [Option.some.injEq, ne_eq]; omega))
                        have hzw := hg.size
                        rcases (show i = 0 ∨ i = 1 ∨ i = 2 ∨ i = 3 ∨ i = 4 ∨ i = 5 ∨ i = 6 ∨ i = 7 ∨ i = 8 ∨ i = 9 ∨ i = 10 by omega) with rfl | rfl | rfl | rfl | rfl | rfl | rfl | rfl | rfl | rfl | rfl
                        · have haf := ready_after hi rfl
                          simp [Region.binds] at haf
                          clear haf
                          refine wpOp_step rfl (fun K' hK => ?_)
                          replace hK := Lib.hid hK
                          go_wp2
                          exact hK.out _ _ ⟨(.pointer (some ⟨b15, 6, none⟩)), t86, t87, t88, t89, t90, t91, t92, t93, (by first | (simp only [Act.put, List.setIfInBounds_toArray, List.set_cons_zero, List.set_cons_succ]; done) | (simp [Act.put]; done)), hg, (by simpa [g] using m0), (by simpa [g] using m8), (by simpa [g] using m10), (by simpa [g] using mv), (by simpa [g] using mb), (by simpa [g] using o8), (by simpa [g] using o3), (by simpa [g] using o10), (fun _ => rfl), (by simpa [g] using c86), (by simpa [g] using c87), (by simpa [g] using c88), (by simpa [g] using c89), (by simpa [g] using c90), (by simpa [g] using c92), (by simpa [g] using c93)⟩
                        · have haf := ready_after hi rfl
                          simp [Region.binds] at haf
                          obtain rfl := c85 (by simp only [Array.getD_eq_getD_getElem?]; simp only [haf])
                          have hx := k15w.cell 6
                          simp only [List.getElem?_toArray, List.getElem?_cons_zero, List.getElem?_cons_succ] at hx
                          refine wpOp_step rfl (fun K' hK => ?_)
                          replace hK := Lib.hid hK
                          go_wp2
                          exact hK.out _ _ ⟨(.pointer (some ⟨b15, 6, none⟩)), (.int .u32 y.n.cost), t87, t88, t89, t90, t91, t92, t93, (by first | (simp only [Act.put, List.setIfInBounds_toArray, List.set_cons_zero, List.set_cons_succ]; done) | (simp [Act.put]; done)), hg, (by simpa [g] using m0), (by simpa [g] using m8), (by simpa [g] using m10), (by simpa [g] using mv), (by simpa [g] using mb), (by simpa [g] using o8), (by simpa [g] using o3), (by simpa [g] using o10), (fun _ => rfl), (fun _ => rfl), (by simpa [g] using c87), (by simpa [g] using c88), (by simpa [g] using c89), (by simpa [g] using c90), (by simpa [g] using c92), (by simpa [g] using c93)⟩
                        · have haf := ready_after hi rfl
                          simp [Region.binds] at haf
                          clear haf
                          refine wpOp_step rfl (fun K' hK => ?_)
                          replace hK := Lib.hid hK
                          go_wp2
                          exact hK.out _ _ ⟨t85, t86, (.pointer (some ⟨b14, 9, none⟩)), t88, t89, t90, t91, t92, t93, (by first | (simp only [Act.put, List.setIfInBounds_toArray, List.set_cons_zero, List.set_cons_succ]; done) | (simp [Act.put]; done)), hg, (by simpa [g] using m0), (by simpa [g] using m8), (by simpa [g] using m10), (by simpa [g] using mv), (by simpa [g] using mb), (by simpa [g] using o8), (by simpa [g] using o3), (by simpa [g] using o10), (by simpa [g] using c85), (by simpa [g] using c86), (fun _ => rfl), (by simpa [g] using c88), (by simpa [g] using c89), (by simpa [g] using c90), (by simpa [g] using c92), (by simpa [g] using c93)⟩
                        · have haf := ready_after hi rfl
                          simp [Region.binds] at haf
                          obtain rfl := c87 (by simp only [Array.getD_eq_getD_getElem?]; simp only [haf])
                          have hn8 : L.getD 8 false = false := by cases h : L.getD 8 false with | false => rfl | true => (have := o3 h; rw [hun] at this; cases this)
                          have hx := (m0 hn8).cell 9
                          simp only [List.getElem?_toArray, List.getElem?_cons_zero, List.getElem?_cons_succ] at hx
                          refine wpOp_step rfl (fun K' hK => ?_)
                          replace hK := Lib.hid hK
                          go_wp2
                          exact hK.out _ _ ⟨t85, t86, (.pointer (some ⟨b14, 9, none⟩)), (.slice A8 h8.length c8), t89, t90, t91, t92, t93, (by first | (simp only [Act.put, List.setIfInBounds_toArray, List.set_cons_zero, List.set_cons_succ]; done) | (simp [Act.put]; done)), hg, (by simpa [g] using m0), (by simpa [g] using m8), (by simpa [g] using m10), (by simpa [g] using mv), (by simpa [g] using mb), (by simpa [g] using o8), (fun _ => by simp [g]), (by simpa [g] using o10), (by simpa [g] using c85), (by simpa [g] using c86), (fun _ => rfl), (fun _ => rfl), (by simpa [g] using c89), (by simpa [g] using c90), (by simpa [g] using c92), (by simpa [g] using c93)⟩
                        · have haf := ready_after hi rfl
                          simp [Region.binds] at haf
                          clear haf
                          refine wpOp_step rfl (fun K' hK => ?_)
                          replace hK := Lib.hid hK
                          go_wp2
                          exact hK.out _ _ ⟨t85, t86, t87, t88, (.pointer (some ⟨b15, 9, none⟩)), t90, t91, t92, t93, (by first | (simp only [Act.put, List.setIfInBounds_toArray, List.set_cons_zero, List.set_cons_succ]; done) | (simp [Act.put]; done)), hg, (by simpa [g] using m0), (by simpa [g] using m8), (by simpa [g] using m10), (by simpa [g] using mv), (by simpa [g] using mb), (by simpa [g] using o8), (by simpa [g] using o3), (by simpa [g] using o10), (by simpa [g] using c85), (by simpa [g] using c86), (by simpa [g] using c87), (by simpa [g] using c88), (fun _ => rfl), (by simpa [g] using c90), (by simpa [g] using c92), (by simpa [g] using c93)⟩
                        · have haf := ready_after hi rfl
                          simp [Region.binds] at haf
                          obtain rfl := c89 (by simp only [Array.getD_eq_getD_getElem?]; simp only [haf])
                          have hx := k15w.cell 9
                          simp only [List.getElem?_toArray, List.getElem?_cons_zero, List.getElem?_cons_succ] at hx
                          refine wpOp_step rfl (fun K' hK => ?_)
                          replace hK := Lib.hid hK
                          go_wp2
                          exact hK.out _ _ ⟨t85, t86, t87, t88, (.pointer (some ⟨b15, 9, none⟩)), (.slice y.A y.len y.cap), t91, t92, t93, (by first | (simp only [Act.put, List.setIfInBounds_toArray, List.set_cons_zero, List.set_cons_succ]; done) | (simp [Act.put]; done)), hg, (by simpa [g] using m0), (by simpa [g] using m8), (by simpa [g] using m10), (by simpa [g] using mv), (by simpa [g] using mb), (by simpa [g] using o8), (by simpa [g] using o3), (by simpa [g] using o10), (by simpa [g] using c85), (by simpa [g] using c86), (by simpa [g] using c87), (by simpa [g] using c88), (fun _ => rfl), (fun _ => rfl), (by simpa [g] using c92), (by simpa [g] using c93)⟩
                        · have haf := ready_after hi rfl
                          simp [Region.binds] at haf
                          obtain rfl := c88 (by simp only [Array.getD_eq_getD_getElem?]; simp only [haf])
                          obtain rfl := c90 (by simp only [Array.getD_eq_getD_getElem?]; simp only [haf])
                          have hn8 : L.getD 8 false = false := by cases h : L.getD 8 false with | false => rfl | true => (have := o8 h; rw [hun] at this; cases this)
                          have hn10 : L.getD 10 false = false := by cases h : L.getD 10 false with | false => rfl | true => (have := o10 h; rw [hn8] at this; cases this)
                          have CJ := Lib.hid (CJ0 w' (mb hn8))
                          have M0 := Lib.hid (m0 hn8)
                          have MB := Lib.hid (mb hn8)
                          refine wpOp_step rfl (fun K' hK => ?_)
                          replace hK := Lib.hid hK
                          go_wp2_with (go_at_call 53; refine Calls.mono CJ.out ?_; rintro e wj ⟨vj, rfl, hoj, hBj⟩)
                          obtain ⟨-, Aj, cj, rfl, -⟩ := id (Sl.of_own hoj)
                          exact hK.out _ _ ⟨t85, t86, t87, (.slice A8 h8.length c8), t89, (.slice y.A y.len y.cap), (.slice Aj hj.length cj), t92, t93, (by first | (simp only [Act.put, List.setIfInBounds_toArray, List.set_cons_zero, List.set_cons_succ]; done) | (simp [Act.put]; done)), grown_trans hg (grown_of_below hBj _), (fun _ => Blk.call hBj M0.out), (fun h => by rw [g 6 8 (by decide)] at h; simp only [hn8] at h; cases h), (fun h => by rw [g 6 10 (by decide)] at h; simp only [hn10] at h; cases h), (fun _ => ⟨Aj, cj, rfl, own_less hoj hzw⟩), (fun _ => MB.out.trans (hBj.mono hzw)), (fun _ => by simp [g]), (by simpa [g] using o3), (by simpa [g] using o10), (by simpa [g] using c85), (by simpa [g] using c86), (by simpa [g] using c87), (fun _ => rfl), (by simpa [g] using c89), (fun _ => rfl), (by simpa [g] using c92), (by simpa [g] using c93)⟩
                        · have haf := ready_after hi rfl
                          simp [Region.binds] at haf
                          clear haf
                          refine wpOp_step rfl (fun K' hK => ?_)
                          replace hK := Lib.hid hK
                          go_wp2
                          exact hK.out _ _ ⟨t85, t86, t87, t88, t89, t90, t91, (.pointer (some ⟨b14, 6, none⟩)), t93, (by first | (simp only [Act.put, List.setIfInBounds_toArray, List.set_cons_zero, List.set_cons_succ]; done) | (simp [Act.put]; done)), hg, (by simpa [g] using m0), (by simpa [g] using m8), (by simpa [g] using m10), (by simpa [g] using mv), (by simpa [g] using mb), (by simpa [g] using o8), (by simpa [g] using o3), (by simpa [g] using o10), (by simpa [g] using c85), (by simpa [g] using c86), (by simpa [g] using c87), (by simpa [g] using c88), (by simpa [g] using c89), (by simpa [g] using c90), (fun _ => rfl), (by simpa [g] using c93)⟩
                        · have haf := ready_after hi rfl
                          simp [Region.binds] at haf
                          obtain rfl := c85 (by simp only [Array.getD_eq_getD_getElem?]; simp only [haf])
                          obtain rfl := c86 (by simp only [Array.getD_eq_getD_getElem?]; simp only [haf])
                          obtain rfl := c87 (by simp only [Array.getD_eq_getD_getElem?]; simp only [haf])
                          obtain rfl := c88 (by simp only [Array.getD_eq_getD_getElem?]; simp only [haf])
                          obtain rfl := c92 (by simp only [Array.getD_eq_getD_getElem?]; simp only [haf])
                          have hl6 : L.getD 6 false = true := (by simp only [Array.getD_eq_getD_getElem?]; simp only [haf])
                          have hl3 : L.getD 3 false = true := (by simp only [Array.getD_eq_getD_getElem?]; simp only [haf])
                          have hn10 : L.getD 10 false = false := by cases h : L.getD 10 false with | false => rfl | true => (have := o10 h; rw [hun] at this; cases this)
                          obtain ⟨Av, cv, rfl, hov⟩ := mv hl6
                          have kk := m0 hun
                          have f6 := kk.free 6
                          have hx := kk.cell 6
                          simp only [List.getElem?_toArray, List.getElem?_cons_zero, List.getElem?_cons_succ] at hx
                          have kc8 : Blk (w'.setCell ⟨b14, 6, none⟩ (.int .u32 y.n.cost)) b14 38 #[.int .u32 x0, .int .u8 x1, .int .u32 x2, .int .u8 x3, .int .u8 2, .int .u32 0, .int .u32 y.n.cost, .int .u32 x7, .int .u32 x8, .slice A8 h8.length c8] := kk.set_ 6 _
                          have ho8 := own_far hov (p := ⟨b14, 6, none⟩) hlt14b (.int .u32 y.n.cost)
                          have hg8 := grown_setCell hg (p := ⟨b14, 6, none⟩) (.inl rfl) (.int .u32 y.n.cost)
                          replace kc8 := Lib.hid kc8
                          replace ho8 := Lib.hid ho8
                          replace hg8 := Lib.hid hg8
                          clear kk k15w hg m0 mb hov
                          refine wpOp_step rfl (fun K' hK => ?_)
                          replace hK := Lib.hid hK
                          go_wp2
                          exact hK.out _ _ ⟨(.pointer (some ⟨b15, 6, none⟩)), (.int .u32 y.n.cost), (.pointer (some ⟨b14, 9, none⟩)), (.slice A8 h8.length c8), t89, t90, (.slice Av hj.length cv), (.pointer (some ⟨b14, 6, none⟩)), t93, (by first | (simp only [Act.put, List.setIfInBounds_toArray, List.set_cons_zero, List.set_cons_succ]; done) | (simp [Act.put]; done)), hg8.out, (fun h => by simp [g] at h), (fun _ _ => kc8.out), (fun h => by rw [g 8 10 (by decide)] at h; simp only [hn10] at h; cases h), (fun _ => ⟨Av, cv, rfl, ho8.out⟩), (fun h => by simp [g] at h), (fun _ => by rw [g 8 6 (by decide)]; simp only [hl6]; rfl), (fun _ => by rw [g 8 3 (by decide)]; simp only [hl3]; rfl), (fun _ => by simp [g]), (fun _ => rfl), (fun _ => rfl), (fun _ => rfl), (fun _ => rfl), (by simpa [g] using c89), (by simpa [g] using c90), (fun _ => rfl), (by simpa [g] using c93)⟩
                        · have haf := ready_after hi rfl
                          simp [Region.binds] at haf
                          clear haf
                          refine wpOp_step rfl (fun K' hK => ?_)
                          replace hK := Lib.hid hK
                          go_wp2
                          exact hK.out _ _ ⟨t85, t86, t87, t88, t89, t90, t91, t92, (.pointer (some ⟨b14, 9, none⟩)), (by first | (simp only [Act.put, List.setIfInBounds_toArray, List.set_cons_zero, List.set_cons_succ]; done) | (simp [Act.put]; done)), hg, (by simpa [g] using m0), (by simpa [g] using m8), (by simpa [g] using m10), (by simpa [g] using mv), (by simpa [g] using mb), (by simpa [g] using o8), (by simpa [g] using o3), (by simpa [g] using o10), (by simpa [g] using c85), (by simpa [g] using c86), (by simpa [g] using c87), (by simpa [g] using c88), (by simpa [g] using c89), (by simpa [g] using c90), (by simpa [g] using c92), (fun _ => rfl)⟩
                        · have haf := ready_after hi rfl
                          simp [Region.binds] at haf
                          obtain rfl := c85 (by simp only [Array.getD_eq_getD_getElem?]; simp only [haf])
                          obtain rfl := c86 (by simp only [Array.getD_eq_getD_getElem?]; simp only [haf])
                          obtain rfl := c87 (by simp only [Array.getD_eq_getD_getElem?]; simp only [haf])
                          obtain rfl := c88 (by simp only [Array.getD_eq_getD_getElem?]; simp only [haf])
                          obtain rfl := c89 (by simp only [Array.getD_eq_getD_getElem?]; simp only [haf])
                          obtain rfl := c90 (by simp only [Array.getD_eq_getD_getElem?]; simp only [haf])
                          obtain rfl := c92 (by simp only [Array.getD_eq_getD_getElem?]; simp only [haf])
                          obtain rfl := c93 (by simp only [Array.getD_eq_getD_getElem?]; simp only [haf])
                          have hl8 : L.getD 8 false = true := (by simp only [Array.getD_eq_getD_getElem?]; simp only [haf])
                          obtain ⟨Av, cv, rfl, hov⟩ := mv (o8 hl8)
                          have kk := m8 hl8 hun
                          have f9 := kk.free 9
                          have hx := kk.cell 9
                          simp only [List.getElem?_toArray, List.getElem?_cons_zero, List.getElem?_cons_succ] at hx
                          have h10 : Blk (w'.setCell ⟨b14, 9, none⟩ (.slice Av hj.length cv)) b14 38 #[.int .u32 x0, .int .u8 x1, .int .u32 x2, .int .u8 x3, .int .u8 2, .int .u32 0, .int .u32 y.n.cost, .int .u32 x7, .int .u32 x8, .slice Av hj.length cv] := kk.set_ 9 _
                          have ho10 := own_far hov (p := ⟨b14, 9, none⟩) hlt14b (.slice Av hj.length cv)
                          have hg10 := grown_setCell hg (p := ⟨b14, 9, none⟩) (.inl rfl) (.slice Av hj.length cv)
                          replace h10 := Lib.hid h10
                          replace ho10 := Lib.hid ho10
                          replace hg10 := Lib.hid hg10
                          clear kk k15w hg m0 m8 mb hov
                          refine wpOp_step rfl (fun K' hK => ?_)
                          replace hK := Lib.hid hK
                          go_wp2
                          exact hK.out _ _ ⟨(.pointer (some ⟨b15, 6, none⟩)), (.int .u32 y.n.cost), (.pointer (some ⟨b14, 9, none⟩)), (.slice A8 h8.length c8), (.pointer (some ⟨b15, 9, none⟩)), (.slice y.A y.len y.cap), (.slice Av hj.length cv), (.pointer (some ⟨b14, 6, none⟩)), (.pointer (some ⟨b14, 9, none⟩)), (by first | (simp only [Act.put, List.setIfInBounds_toArray, List.set_cons_zero, List.set_cons_succ]; done) | (simp [Act.put]; done)), hg10.out, (fun h => by rw [g 10 8 (by decide)] at h; simp only [hl8] at h; cases h), (fun _ h => by simp [g] at h), (fun _ => ⟨Av, cv, rfl, h10.out⟩), (fun _ => ⟨Av, cv, rfl, ho10.out⟩), (fun h => by rw [g 10 8 (by decide)] at h; simp only [hl8] at h; cases h), (by simpa [g] using o8), (by simpa [g] using o3), (fun _ => by rw [g 10 8 (by decide)]; simp only [hl8]; rfl), (fun _ => rfl), (fun _ => rfl), (fun _ => rfl), (fun _ => rfl), (fun _ => rfl), (fun _ => rfl), (fun _ => rfl), (fun _ => rfl)⟩
                      · rintro L a' w' hall ⟨t85, t86, t87, t88, t89, t90, t91, t92, t93, ha, hg, m0, m8, m10, mv, mb, o8, o3, o10, c85, c86, c87, c88, c89, c90, c92, c93⟩
                        obtain ⟨Aj, cj, rfl, kj⟩ := m10 (hall 10 (by decide))
                        obtain ⟨Aj2, cj2, he, hoj⟩ := mv (hall 6 (by decide))
                        obtain ⟨rfl, -, rfl⟩ := by simpa using he
                        simp only [Act.put, List.setIfInBounds_toArray, List.set_cons_zero, List.set_cons_succ] at ha
                        subst ha
                        clear m0 m8 m10 mv mb o8 o3 o10 c85 c86 c87 c88 c89 c90 c92 c93
                        go_wp2_with fail
                        go_meet
                        case rel =>
                          rw [hG8]
                          refine ⟨⟨Aj, cj, kj, own_less hoj (hI6.below.size)⟩, hI6.grown hg (fun q e => ?_), hle14, hne⟩
                          simp only [Option.some.injEq] at e
                          subst e
                          exact ⟨hle14, hne, _, k14r⟩
                    · go_upto_region 16 with fail
                      have k15r := k15
                      have hI6 := hS5.out.imp
                      have hlt14b := k145.lt
                      obtain ⟨v6, rfl⟩ : ∃ x : World, x = v5 := ⟨_, rfl⟩
                      obtain ⟨A8, h8, c8, k14r, hs8, hG8, hn8⟩ : ∃ (A8 : Option Addr) (h8 : List Hop) (c8 : Nat), Blk v6 b14 38 #[.int .u32 x0, .int .u8 x1, .int .u32 x2, .int .u8 x3, .int .u8 2, .int .u32 0, .int .u32 x6, .int .u32 x7, .int .u32 x8, .slice A8 h8.length c8] ∧ Sl v6 v6.heap.size 3 (.slice A8 h8.length c8) h8.length (h8.flatMap hopCells) ∧ G = ((⟨x0, x1, x2, x3, 2, 0, y.n.cost, x7, x8⟩, puts (puts [] h8) yh) : WayG) ∧ h8.length ≤ 300000 := ⟨A9, gh, c9, k145, Sl.of_own hg145, by rw [hG, if_neg (show ¬ y.n.cost < x6 by omega)], hgh⟩
                      clear ef9 k145 hg145 hS5 k15 hHy
                      have hH6 : HopsAt (y, yh) v6 := (hHy3.below hI6.below).more hI6.below.size
                      clear t0 t1 t2 t3 t4 t5 t6 t7 t8 t9 z0 z1 z2 z3 z4 z5 z6 z7 z8 z9 hg0 no hG hlt
                      obtain ⟨hj, hhj⟩ : ∃ hj, hj = puts (puts [] h8) yh := ⟨_, rfl⟩
                      rw [← hhj] at hG8
                      have CJ0 : ∀ W2, Below v6.heap.size v6 W2 → Calls Tryz.prog 53 #[.slice A8 h8.length c8, .slice y.A y.len y.cap] W2 (HopsPost W2 hj) := fun W2 h2 => by rw [hhj]; exact join_any h8 yh _ _ W2 ((hs8.below h2).more h2.size) ((hH6.below h2).more h2.size) (by omega)
                      clear hhj hs8 hH6
                      refine wp_region_inv0 (fun a0 w0 L a' w' => ∃ t85 t86 t87 t88 t89 t90 t91 t92 t93 : Value, a' = (((((((((a0.put (some 85) t85).put (some 86) t86).put (some 87) t87).put (some 88) t88).put (some 89) t89).put (some 90) t90).put (some 91) t91).put (some 92) t92).put (some 93) t93) ∧ v6.grownBy w' (some b14) ∧ (L.getD 8 false = false → Blk w' b14 38 #[.int .u32 x0, .int .u8 x1, .int .u32 x2, .int .u8 x3, .int .u8 2, .int .u32 0, .int .u32 x6, .int .u32 x7, .int .u32 x8, .slice A8 h8.length c8]) ∧ (L.getD 8 false = true → L.getD 10 false = false → Blk w' b14 38 #[.int .u32 x0, .int .u8 x1, .int .u32 x2, .int .u8 x3, .int .u8 2, .int .u32 0, .int .u32 y.n.cost, .int .u32 x7, .int .u32 x8, .slice A8 h8.length c8]) ∧ (L.getD 10 false = true → ∃ A c, t91 = .slice A hj.length c ∧ Blk w' b14 38 #[.int .u32 x0, .int .u8 x1, .int .u32 x2, .int .u8 x3, .int .u8 2, .int .u32 0, .int .u32 y.n.cost, .int .u32 x7, .int .u32 x8, .slice A hj.length c]) ∧ (L.getD 6 false = true → ∃ A c, t91 = .slice A hj.length c ∧ w'.ownsRow v6.heap.size 47 3 (.slice A hj.length c) hj.length (hj.flatMap hopCells)) ∧ (L.getD 8 false = false → Below v6.heap.size v6 w') ∧ (L.getD 8 false = true → L.getD 6 false = true) ∧ (L.getD 8 false = true → L.getD 3 false = true) ∧ (L.getD 10 false = true → L.getD 8 false = true) ∧ (L.getD 0 false = true → t85 = .pointer (some ⟨b15, 6, none⟩)) ∧ (L.getD 1 false = true → t86 = .int .u32 y.n.cost) ∧ (L.getD 2 false = true → t87 = .pointer (some ⟨b14, 9, none⟩)) ∧ (L.getD 3 false = true → t88 = .slice A8 h8.length c8) ∧ (L.getD 4 false = true → t89 = .pointer (some ⟨b15, 9, none⟩)) ∧ (L.getD 5 false = true → t90 = .slice y.A y.len y.cap) ∧ (L.getD 7 false = true → t92 = .pointer (some ⟨b14, 6, none⟩)) ∧ (L.getD 9 false = true → t93 = .pointer (some ⟨b14, 9, none⟩))) hmix (by kernel_rfl) ?_ ?_ ?_
                      · refine ⟨u85, u86, u87, u88, u89, u90, u91, u92, u93, (by first | (simp only [Act.put, List.setIfInBounds_toArray, List.set_cons_zero, List.set_cons_succ]; done) | (simp [Act.put]; done)), grown_drewN (grown_refl _ _) 1, fun _ => k14r, fun h => ?_, fun h => ?_, fun h => ?_, fun _ => (Below.refl _ _).drew, fun h => ?_, fun h => ?_, fun h => ?_, fun h => ?_, fun h => ?_, fun h => ?_, fun h => ?_, fun h => ?_, fun h => ?_, fun h => ?_, fun h => ?_⟩
                        all_goals (simp at h)
                      · rintro L a' w' i hL hi ⟨t85, t86, t87, t88, t89, t90, t91, t92, t93, ha, hg, m0, m8, m10, mv, mb, o8, o3, o10, c85, c86, c87, c88, c89, c90, c92, c93⟩
                        simp only [Act.put, List.setIfInBounds_toArray, List.set_cons_zero, List.set_cons_succ] at ha
                        subst ha
                        have hlt : i < 11 := (ready_mem hi).1
                        have hun := getD_low (ready_mem hi).2
                        have g : ∀ i' j', i' < 11 → (L.setIfInBounds i' true).getD j' false = if j' = i' then true else L.getD j' false := fun i' j' h => getD_set (by rw [hL]; exact h)
                        have k15w : Blk w' b15 38 #[.int .u32 y.n.addr, .int .u8 y.n.bits, .int .u32 y.n.router, .int .u8 y.n.flags, .int .u8 y.n.kind, .int .u32 y.n.area, .int .u32 y.n.cost, .int .u32 y.n.far, .int .u32 y.n.tag, .slice y.A y.len y.cap] := Blk.same k15r (hg.block b15 k15r.lt (by simp only [Option.some.injEq, ne_eq]; omega))
                        have hzw := hg.size
                        rcases (show i = 0 ∨ i = 1 ∨ i = 2 ∨ i = 3 ∨ i = 4 ∨ i = 5 ∨ i = 6 ∨ i = 7 ∨ i = 8 ∨ i = 9 ∨ i = 10 by omega) with rfl | rfl | rfl | rfl | rfl | rfl | rfl | rfl | rfl | rfl | rfl
                        · have haf := ready_after hi rfl
                          simp [Region.binds] at haf
                          clear haf
                          refine wpOp_step rfl (fun K' hK => ?_)
                          replace hK := Lib.hid hK
                          go_wp2
                          exact hK.out _ _ ⟨(.pointer (some ⟨b15, 6, none⟩)), t86, t87, t88, t89, t90, t91, t92, t93, (by first | (simp only [Act.put, List.setIfInBounds_toArray, List.set_cons_zero, List.set_cons_succ]; done) | (simp [Act.put]; done)), hg, (by simpa [g] using m0), (by simpa [g] using m8), (by simpa [g] using m10), (by simpa [g] using mv), (by simpa [g] using mb), (by simpa [g] using o8), (by simpa [g] using o3), (by simpa [g] using o10), (fun _ => rfl), (by simpa [g] using c86), (by simpa [g] using c87), (by simpa [g] using c88), (by simpa [g] using c89), (by simpa [g] using c90), (by simpa [g] using c92), (by simpa [g] using c93)⟩
                        · have haf := ready_after hi rfl
                          simp [Region.binds] at haf
                          obtain rfl := c85 (by simp only [Array.getD_eq_getD_getElem?]; simp only [haf])
                          have hx := k15w.cell 6
                          simp only [List.getElem?_toArray, List.getElem?_cons_zero, List.getElem?_cons_succ] at hx
                          refine wpOp_step rfl (fun K' hK => ?_)
                          replace hK := Lib.hid hK
                          go_wp2
                          exact hK.out _ _ ⟨(.pointer (some ⟨b15, 6, none⟩)), (.int .u32 y.n.cost), t87, t88, t89, t90, t91, t92, t93, (by first | (simp only [Act.put, List.setIfInBounds_toArray, List.set_cons_zero, List.set_cons_succ]; done) | (simp [Act.put]; done)), hg, (by simpa [g] using m0), (by simpa [g] using m8), (by simpa [g] using m10), (by simpa [g] using mv), (by simpa [g] using mb), (by simpa [g] using o8), (by simpa [g] using o3), (by simpa [g] using o10), (fun _ => rfl), (fun _ => rfl), (by simpa [g] using c87), (by simpa [g] using c88), (by simpa [g] using c89), (by simpa [g] using c90), (by simpa [g] using c92), (by simpa [g] using c93)⟩
                        · have haf := ready_after hi rfl
                          simp [Region.binds] at haf
                          clear haf
                          refine wpOp_step rfl (fun K' hK => ?_)
                          replace hK := Lib.hid hK
                          go_wp2
                          exact hK.out _ _ ⟨t85, t86, (.pointer (some ⟨b14, 9, none⟩)), t88, t89, t90, t91, t92, t93, (by first | (simp only [Act.put, List.setIfInBounds_toArray, List.set_cons_zero, List.set_cons_succ]; done) | (simp [Act.put]; done)), hg, (by simpa [g] using m0), (by simpa [g] using m8), (by simpa [g] using m10), (by simpa [g] using mv), (by simpa [g] using mb), (by simpa [g] using o8), (by simpa [g] using o3), (by simpa [g] using o10), (by simpa [g] using c85), (by simpa [g] using c86), (fun _ => rfl), (by simpa [g] using c88), (by simpa [g] using c89), (by simpa [g] using c90), (by simpa [g] using c92), (by simpa [g] using c93)⟩
                        · have haf := ready_after hi rfl
                          simp [Region.binds] at haf
                          obtain rfl := c87 (by simp only [Array.getD_eq_getD_getElem?]; simp only [haf])
                          have hn8 : L.getD 8 false = false := by cases h : L.getD 8 false with | false => rfl | true => (have := o3 h; rw [hun] at this; cases this)
                          have hx := (m0 hn8).cell 9
                          simp only [List.getElem?_toArray, List.getElem?_cons_zero, List.getElem?_cons_succ] at hx
                          refine wpOp_step rfl (fun K' hK => ?_)
                          replace hK := Lib.hid hK
                          go_wp2
                          exact hK.out _ _ ⟨t85, t86, (.pointer (some ⟨b14, 9, none⟩)), (.slice A8 h8.length c8), t89, t90, t91, t92, t93, (by first | (simp only [Act.put, List.setIfInBounds_toArray, List.set_cons_zero, List.set_cons_succ]; done) | (simp [Act.put]; done)), hg, (by simpa [g] using m0), (by simpa [g] using m8), (by simpa [g] using m10), (by simpa [g] using mv), (by simpa [g] using mb), (by simpa [g] using o8), (fun _ => by simp [g]), (by simpa [g] using o10), (by simpa [g] using c85), (by simpa [g] using c86), (fun _ => rfl), (fun _ => rfl), (by simpa [g] using c89), (by simpa [g] using c90), (by simpa [g] using c92), (by simpa [g] using c93)⟩
                        · have haf := ready_after hi rfl
                          simp [Region.binds] at haf
                          clear haf
                          refine wpOp_step rfl (fun K' hK => ?_)
                          replace hK := Lib.hid hK
                          go_wp2
                          exact hK.out _ _ ⟨t85, t86, t87, t88, (.pointer (some ⟨b15, 9, none⟩)), t90, t91, t92, t93, (by first | (simp only [Act.put, List.setIfInBounds_toArray, List.set_cons_zero, List.set_cons_succ]; done) | (simp [Act.put]; done)), hg, (by simpa [g] using m0), (by simpa [g] using m8), (by simpa [g] using m10), (by simpa [g] using mv), (by simpa [g] using mb), (by simpa [g] using o8), (by simpa [g] using o3), (by simpa [g] using o10), (by simpa [g] using c85), (by simpa [g] using c86), (by simpa [g] using c87), (by simpa [g] using c88), (fun _ => rfl), (by simpa [g] using c90), (by simpa [g] using c92), (by simpa [g] using c93)⟩
                        · have haf := ready_after hi rfl
                          simp [Region.binds] at haf
                          obtain rfl := c89 (by simp only [Array.getD_eq_getD_getElem?]; simp only [haf])
                          have hx := k15w.cell 9
                          simp only [List.getElem?_toArray, List.getElem?_cons_zero, List.getElem?_cons_succ] at hx
                          refine wpOp_step rfl (fun K' hK => ?_)
                          replace hK := Lib.hid hK
                          go_wp2
                          exact hK.out _ _ ⟨t85, t86, t87, t88, (.pointer (some ⟨b15, 9, none⟩)), (.slice y.A y.len y.cap), t91, t92, t93, (by first | (simp only [Act.put, List.setIfInBounds_toArray, List.set_cons_zero, List.set_cons_succ]; done) | (simp [Act.put]; done)), hg, (by simpa [g] using m0), (by simpa [g] using m8), (by simpa [g] using m10), (by simpa [g] using mv), (by simpa [g] using mb), (by simpa [g] using o8), (by simpa [g] using o3), (by simpa [g] using o10), (by simpa [g] using c85), (by simpa [g] using c86), (by simpa [g] using c87), (by simpa [g] using c88), (fun _ => rfl), (fun _ => rfl), (by simpa [g] using c92), (by simpa [g] using c93)⟩
                        · have haf := ready_after hi rfl
                          simp [Region.binds] at haf
                          obtain rfl := c88 (by simp only [Array.getD_eq_getD_getElem?]; simp only [haf])
                          obtain rfl := c90 (by simp only [Array.getD_eq_getD_getElem?]; simp only [haf])
                          have hn8 : L.getD 8 false = false := by cases h : L.getD 8 false with | false => rfl | true => (have := o8 h; rw [hun] at this; cases this)
                          have hn10 : L.getD 10 false = false := by cases h : L.getD 10 false with | false => rfl | true => (have := o10 h; rw [hn8] at this; cases this)
                          have CJ := Lib.hid (CJ0 w' (mb hn8))
                          have M0 := Lib.hid (m0 hn8)
                          have MB := Lib.hid (mb hn8)
                          refine wpOp_step rfl (fun K' hK => ?_)
                          replace hK := Lib.hid hK
                          go_wp2_with (go_at_call 53; refine Calls.mono CJ.out ?_; rintro e wj ⟨vj, rfl, hoj, hBj⟩)
                          obtain ⟨-, Aj, cj, rfl, -⟩ := id (Sl.of_own hoj)
                          exact hK.out _ _ ⟨t85, t86, t87, (.slice A8 h8.length c8), t89, (.slice y.A y.len y.cap), (.slice Aj hj.length cj), t92, t93, (by first | (simp only [Act.put, List.setIfInBounds_toArray, List.set_cons_zero, List.set_cons_succ]; done) | (simp [Act.put]; done)), grown_trans hg (grown_of_below hBj _), (fun _ => Blk.call hBj M0.out), (fun h => by rw [g 6 8 (by decide)] at h; simp only [hn8] at h; cases h), (fun h => by rw [g 6 10 (by decide)] at h; simp only [hn10] at h; cases h), (fun _ => ⟨Aj, cj, rfl, own_less hoj hzw⟩), (fun _ => MB.out.trans (hBj.mono hzw)), (fun _ => by simp [g]), (by simpa [g] using o3), (by simpa [g] using o10), (by simpa [g] using c85), (by simpa [g] using c86), (by simpa [g] using c87), (fun _ => rfl), (by simpa [g] using c89), (fun _ => rfl), (by simpa [g] using c92), (by simpa [g] using c93)⟩
                        · have haf := ready_after hi rfl
                          simp [Region.binds] at haf
                          clear haf
                          refine wpOp_step rfl (fun K' hK => ?_)
                          replace hK := Lib.hid hK
                          go_wp2
                          exact hK.out _ _ ⟨t85, t86, t87, t88, t89, t90, t91, (.pointer (some ⟨b14, 6, none⟩)), t93, (by first | (simp only [Act.put, List.setIfInBounds_toArray, List.set_cons_zero, List.set_cons_succ]; done) | (simp [Act.put]; done)), hg, (by simpa [g] using m0), (by simpa [g] using m8), (by simpa [g] using m10), (by simpa [g] using mv), (by simpa [g] using mb), (by simpa [g] using o8), (by simpa [g] using o3), (by simpa [g] using o10), (by simpa [g] using c85), (by simpa [g] using c86), (by simpa [g] using c87), (by simpa [g] using c88), (by simpa [g] using c89), (by simpa [g] using c90), (fun _ => rfl), (by simpa [g] using c93)⟩
                        · have haf := ready_after hi rfl
                          simp [Region.binds] at haf
                          obtain rfl := c85 (by simp only [Array.getD_eq_getD_getElem?]; simp only [haf])
                          obtain rfl := c86 (by simp only [Array.getD_eq_getD_getElem?]; simp only [haf])
                          obtain rfl := c87 (by simp only [Array.getD_eq_getD_getElem?]; simp only [haf])
                          obtain rfl := c88 (by simp only [Array.getD_eq_getD_getElem?]; simp only [haf])
                          obtain rfl := c92 (by simp only [Array.getD_eq_getD_getElem?]; simp only [haf])
                          have hl6 : L.getD 6 false = true := (by simp only [Array.getD_eq_getD_getElem?]; simp only [haf])
                          have hl3 : L.getD 3 false = true := (by simp only [Array.getD_eq_getD_getElem?]; simp only [haf])
                          have hn10 : L.getD 10 false = false := by cases h : L.getD 10 false with | false => rfl | true => (have := o10 h; rw [hun] at this; cases this)
                          obtain ⟨Av, cv, rfl, hov⟩ := mv hl6
                          have kk := m0 hun
                          have f6 := kk.free 6
                          have hx := kk.cell 6
                          simp only [List.getElem?_toArray, List.getElem?_cons_zero, List.getElem?_cons_succ] at hx
                          have kc8 : Blk (w'.setCell ⟨b14, 6, none⟩ (.int .u32 y.n.cost)) b14 38 #[.int .u32 x0, .int .u8 x1, .int .u32 x2, .int .u8 x3, .int .u8 2, .int .u32 0, .int .u32 y.n.cost, .int .u32 x7, .int .u32 x8, .slice A8 h8.length c8] := kk.set_ 6 _
                          have ho8 := own_far hov (p := ⟨b14, 6, none⟩) hlt14b (.int .u32 y.n.cost)
                          have hg8 := grown_setCell hg (p := ⟨b14, 6, none⟩) (.inl rfl) (.int .u32 y.n.cost)
                          replace kc8 := Lib.hid kc8
                          replace ho8 := Lib.hid ho8
                          replace hg8 := Lib.hid hg8
                          clear kk k15w hg m0 mb hov
                          refine wpOp_step rfl (fun K' hK => ?_)
                          replace hK := Lib.hid hK
                          go_wp2
                          exact hK.out _ _ ⟨(.pointer (some ⟨b15, 6, none⟩)), (.int .u32 y.n.cost), (.pointer (some ⟨b14, 9, none⟩)), (.slice A8 h8.length c8), t89, t90, (.slice Av hj.length cv), (.pointer (some ⟨b14, 6, none⟩)), t93, (by first | (simp only [Act.put, List.setIfInBounds_toArray, List.set_cons_zero, List.set_cons_succ]; done) | (simp [Act.put]; done)), hg8.out, (fun h => by simp [g] at h), (fun _ _ => kc8.out), (fun h => by rw [g 8 10 (by decide)] at h; simp only [hn10] at h; cases h), (fun _ => ⟨Av, cv, rfl, ho8.out⟩), (fun h => by simp [g] at h), (fun _ => by rw [g 8 6 (by decide)]; simp only [hl6]; rfl), (fun _ => by rw [g 8 3 (by decide)]; simp only [hl3]; rfl), (fun _ => by simp [g]), (fun _ => rfl), (fun _ => rfl), (fun _ => rfl), (fun _ => rfl), (by simpa [g] using c89), (by simpa [g] using c90), (fun _ => rfl), (by simpa [g] using c93)⟩
                        · have haf := ready_after hi rfl
                          simp [Region.binds] at haf
                          clear haf
                          refine wpOp_step rfl (fun K' hK => ?_)
                          replace hK := Lib.hid hK
                          go_wp2
                          exact hK.out _ _ ⟨t85, t86, t87, t88, t89, t90, t91, t92, (.pointer (some ⟨b14, 9, none⟩)), (by first | (simp only [Act.put, List.setIfInBounds_toArray, List.set_cons_zero, List.set_cons_succ]; done) | (simp [Act.put]; done)), hg, (by simpa [g] using m0), (by simpa [g] using m8), (by simpa [g] using m10), (by simpa [g] using mv), (by simpa [g] using mb), (by simpa [g] using o8), (by simpa [g] using o3), (by simpa [g] using o10), (by simpa [g] using c85), (by simpa [g] using c86), (by simpa [g] using c87), (by simpa [g] using c88), (by simpa [g] using c89), (by simpa [g] using c90), (by simpa [g] using c92), (fun _ => rfl)⟩
                        · have haf := ready_after hi rfl
                          simp [Region.binds] at haf
                          obtain rfl := c85 (by simp only [Array.getD_eq_getD_getElem?]; simp only [haf])
                          obtain rfl := c86 (by simp only [Array.getD_eq_getD_getElem?]; simp only [haf])
                          obtain rfl := c87 (by simp only [Array.getD_eq_getD_getElem?]; simp only [haf])
                          obtain rfl := c88 (by simp only [Array.getD_eq_getD_getElem?]; simp only [haf])
                          obtain rfl := c89 (by simp only [Array.getD_eq_getD_getElem?]; simp only [haf])
                          obtain rfl := c90 (by simp only [Array.getD_eq_getD_getElem?]; simp only [haf])
                          obtain rfl := c92 (by simp only [Array.getD_eq_getD_getElem?]; simp only [haf])
                          obtain rfl := c93 (by simp only [Array.getD_eq_getD_getElem?]; simp only [haf])
                          have hl8 : L.getD 8 false = true := (by simp only [Array.getD_eq_getD_getElem?]; simp only [haf])
                          obtain ⟨Av, cv, rfl, hov⟩ := mv (o8 hl8)
                          have kk := m8 hl8 hun
                          have f9 := kk.free 9
                          have hx := kk.cell 9
                          simp only [List.getElem?_toArray, List.getElem?_cons_zero, List.getElem?_cons_succ] at hx
                          have h10 : Blk (w'.setCell ⟨b14, 9, none⟩ (.slice Av hj.length cv)) b14 38 #[.int .u32 x0, .int .u8 x1, .int .u32 x2, .int .u8 x3, .int .u8 2, .int .u32 0, .int .u32 y.n.cost, .int .u32 x7, .int .u32 x8, .slice Av hj.length cv] := kk.set_ 9 _
                          have ho10 := own_far hov (p := ⟨b14, 9, none⟩) hlt14b (.slice Av hj.length cv)
                          have hg10 := grown_setCell hg (p := ⟨b14, 9, none⟩) (.inl rfl) (.slice Av hj.length cv)
                          replace h10 := Lib.hid h10
                          replace ho10 := Lib.hid ho10
                          replace hg10 := Lib.hid hg10
                          clear kk k15w hg m0 m8 mb hov
                          refine wpOp_step rfl (fun K' hK => ?_)
                          replace hK := Lib.hid hK
                          go_wp2
                          exact hK.out _ _ ⟨(.pointer (some ⟨b15, 6, none⟩)), (.int .u32 y.n.cost), (.pointer (some ⟨b14, 9, none⟩)), (.slice A8 h8.length c8), (.pointer (some ⟨b15, 9, none⟩)), (.slice y.A y.len y.cap), (.slice Av hj.length cv), (.pointer (some ⟨b14, 6, none⟩)), (.pointer (some ⟨b14, 9, none⟩)), (by first | (simp only [Act.put, List.setIfInBounds_toArray, List.set_cons_zero, List.set_cons_succ]; done) | (simp [Act.put]; done)), hg10.out, (fun h => by rw [g 10 8 (by decide)] at h; simp only [hl8] at h; cases h), (fun _ h => by simp [g] at h), (fun _ => ⟨Av, cv, rfl, h10.out⟩), (fun _ => ⟨Av, cv, rfl, ho10.out⟩), (fun h => by rw [g 10 8 (by decide)] at h; simp only [hl8] at h; cases h), (by simpa [g] using o8), (by simpa [g] using o3), (fun _ => by rw [g 10 8 (by decide)]; simp only [hl8]; rfl), (fun _ => rfl), (fun _ => rfl), (fun _ => rfl), (fun _ => rfl), (fun _ => rfl), (fun _ => rfl), (fun _ => rfl), (fun _ => rfl)⟩
                      · rintro L a' w' hall ⟨t85, t86, t87, t88, t89, t90, t91, t92, t93, ha, hg, m0, m8, m10, mv, mb, o8, o3, o10, c85, c86, c87, c88, c89, c90, c92, c93⟩
                        obtain ⟨Aj, cj, rfl, kj⟩ := m10 (hall 10 (by decide))
                        obtain ⟨Aj2, cj2, he, hoj⟩ := mv (hall 6 (by decide))
                        obtain ⟨rfl, -, rfl⟩ := by simpa using he
                        simp only [Act.put, List.setIfInBounds_toArray, List.set_cons_zero, List.set_cons_succ] at ha
                        subst ha
                        clear m0 m8 m10 mv mb o8 o3 o10 c85 c86 c87 c88 c89 c90 c92 c93
                        go_wp2_with fail
                        go_meet
                        case rel =>
                          rw [hG8]
                          refine ⟨⟨Aj, cj, kj, own_less hoj (hI6.below.size)⟩, hI6.grown hg (fun q e => ?_), hle14, hne⟩
                          simp only [Option.some.injEq] at e
                          subst e
                          exact ⟨hle14, hne, _, k14r⟩
                · have hno : G = (⟨x0, x1, x2, x3, x4, x5, x6, x7, x8⟩, gh) := no (by
                    simp only [improves, Bool.and_eq_false_iff, Bool.or_eq_false_iff, beq_eq_false_iff_ne, decide_eq_false_iff_not]
                    omega)
                  clear hg0 no
                  replace hno := Lib.hid hno
                  by_cases hk1 : x4 = 1
                  · subst hk1
                    by_cases hk2 : x5 = 0
                    · subst hk2
                      have hk3 : ¬ y.n.cost ≤ x6 := fun h => hka ⟨.inl rfl, rfl, h⟩
                      clear hka
                      go_wp2_with fail
                      go_meet
                      case rel => rw [hno.out]; exact hS5.out
                    · clear hka
                      go_wp2_with fail
                      go_meet
                      case rel => rw [hno.out]; exact hS5.out
                  · by_cases hk4 : x4 = 2
                    · subst hk4
                      by_cases hk2 : x5 = 0
                      · subst hk2
                        have hk3 : ¬ y.n.cost ≤ x6 := fun h => hka ⟨.inr rfl, rfl, h⟩
                        clear hka
                        go_wp2_with fail
                        go_meet
                        case rel => rw [hno.out]; exact hS5.out
                      · clear hka
                        go_wp2_with fail
                        go_meet
                        case rel => rw [hno.out]; exact hS5.out
                    · clear hka
                      go_wp2_with fail
                      go_meet
                      case rel => rw [hno.out]; exact hS5.out
            case rest =>
              generalize improveP f (⟨x0, x1, x2, x3, x4, x5, x6, x7, x8⟩, gh) = G at *
              obtain ⟨n8, h8⟩ := G
              obtain ⟨⟨A8, c8, k8, ho8⟩, hI8, -, hne8⟩ := hcut
              dsimp only [wayC] at k8 ho8
              obtain ⟨v5, rfl⟩ : ∃ x : World, x = wc := ⟨_, rfl⟩
              have t0 := k8.cell 0
              have t1 := k8.cell 1
              have t2 := k8.cell 2
              have t3 := k8.cell 3
              have t4 := k8.cell 4
              have t5 := k8.cell 5
              have t6 := k8.cell 6
              have t7 := k8.cell 7
              have t8 := k8.cell 8
              have t9 := k8.cell 9
              simp only [List.getElem?_toArray, List.getElem?_cons_zero, List.getElem?_cons_succ] at t0 t1 t2 t3 t4 t5 t6 t7 t8 t9
              have hI9 := hI8.alloc (.cells #[.int .u32 n8.addr, .int .u8 n8.bits, .int .u32 n8.router, .int .u8 n8.flags, .int .u8 n8.kind, .int .u32 n8.area, .int .u32 n8.cost, .int .u32 n8.far, .int .u32 n8.tag, .slice A8 h8.length c8] 38)
              have ho9 := own_alloc ho8 (.cells #[.int .u32 n8.addr, .int .u8 n8.bits, .int .u32 n8.router, .int .u8 n8.flags, .int .u8 n8.kind, .int .u32 n8.area, .int .u32 n8.cost, .int .u32 n8.far, .int .u32 n8.tag, .slice A8 h8.length c8] 38)
              have hz5 := hI8.below.size
              clear hS4
              go_wp2_with (first
                | (at_builtin; refine wpList_append rfl (.tmp 94) (.tmp 96) 30 rfl w3.heap.size wayT u12 xs.length (xs.flatMap yL) rfl hI9.own _ _ 1 [.int .u32 n8.addr, .int .u8 n8.bits, .int .u32 n8.router, .int .u8 n8.flags, .int .u8 n8.kind, .int .u32 n8.area, .int .u32 n8.cost, .int .u32 n8.far, .int .u32 n8.tag, .slice A8 h8.length c8] rfl (Sl.lit v5 #[.int .u32 n8.addr, .int .u8 n8.bits, .int .u32 n8.router, .int .u8 n8.flags, .int .u8 n8.kind, .int .u32 n8.area, .int .u32 n8.cost, .int .u32 n8.far, .int .u32 n8.tag, .slice A8 h8.length c8] 38 (by simp [maxLen]) rfl) (by simp [Value.oneCell']) (by simp only [maxLen]; omega) (by omega) (by simp; omega) ?_; intro v7 w7 ho7 hg7 hob7)
                | fail)
              go_roundg (wl.length - (k + 1))
              case measure => omega
              case rel =>
                refine ⟨k + 1, xs ++ [((⟨n8, A8, h8.length, c8⟩, h8) : WayY)], by omega, rfl, by go_num, by simp [hxk], by rw [gOf_snoc, hgx, htk], hI9.grow rfl ho9 ?_ hg7⟩
                rw [List.length_append, List.flatMap_append]
                exact ho7
        · obtain rfl : k = wl.length := by omega
          rw [hwl, List.take_length] at hgx
          go_wp2_with fail
          go_ret
          refine ⟨u12, xs, rfl, own_less hI.own hz3, fun x hx => Sl.of_own (hI.hops x hx), hgx, hb3.trans (hI.below.mono hz3)⟩
end Go.Proofs.YtiikagabdiphkaaGreat
