/- The least way to each place; the ways between areas. -/
import Derived.Test.YtiikagabdiphkaaGreatMpe
import Derived.Test.YtiikagabdiphkaaGreatMh
import Derived.Test.YtiikagabdiphkaaGreatMhb
import Derived.Maps.RangeWalk
namespace Go.Proofs.YtiikagabdiphkaaGreat
open Go.RowKit Go.Lo Go.Maps

theorem bits_u32 (op : BinOp) (a b : Int) : 0 ≤ bits op .u32 a b ∧ bits op .u32 a b < 4294967296 := by
  unfold bits
  rw [IntKind.wrap_u32]
  omega
theorem bitsV_u8 (m : Int) : 0 ≤ bitsV m ∧ bitsV m < 256 := by
  unfold bitsV bitsN
  split <;> omega
theorem leadT_ok {h : OHead} (ok : HeadOk h) {body : List Int} {self : Int} {R : List WayG} {m t : Nat} (hm : ∀ r ∈ R, r.2.length ≤ m) {g : WayG} (e : leadT h body self R t = some g) : InK (keyG g.1) ∧ g.2.length ≤ m := by
  unfold leadT at e
  split at e
  · cases e
  split at e
  · cases e
  rename_i r hr
  have hrm := hm r (List.mem_of_find?_eq_some hr)
  split at e
  · cases e
  split at e
  · split at e
    · cases e
    · simp only [Option.some.injEq] at e
      subst e
      exact ⟨⟨by simp [keyG], by simp [keyG], ok.id⟩, hrm⟩
  · simp only [Option.some.injEq] at e
    subst e
    have h1 := bits_u32 .and h.id (decP t body).1
    have h2 := bitsV_u8 (decP t body).1
    generalize bits BinOp.and IntKind.u32 h.id (decP t body).1 = z1 at *
    generalize bitsV (decP t body).1 = z2 at *
    exact ⟨⟨h1, h2, by simp [keyG]⟩, hrm⟩
theorem leadP_ok {h : OHead} (ok : HeadOk h) {body : List Int} {self : Int} {R : List WayG} {m : Nat} (hm : ∀ r ∈ R, r.2.length ≤ m) {g : WayG} (e : leadP h body self R = some g) : InK (keyG g.1) ∧ g.2.length ≤ m := by
  unfold leadP at e
  split at e
  · exact leadT_ok ok hm e
  · split at e
    · exact leadT_ok ok hm e
    · cases e

/-- a way that is none -/
abbrev zWay : Value := .agg #[.int .u32 0, .int .u8 0, .int .u32 0, .int .u8 0, .int .u8 0, .int .u32 0, .int .u32 0, .int .u32 0, .int .u32 0, .slice none 0 0]
theorem zWay_run (W : World) : (zeroValue 38).run Tryz.prog W = .ok zWay W := by kernel_rfl

section
variable {F : Fence} {n : Nat} {ops : Array Oper} {rest : List Oper} {o : Oper} {a : Act} {Q : Exit → Act → World → Prop} {w : World}

theorem wpListIn_lookup_way (hg : o.guard = none) (m x : Operand) (hop : o.op = Op.lookup 102 m x true) (b nn : Nat) (D : DataW Value) (f : K3 → Option WayG)
    (hm : a.eval m = .map (some b)) (hown : w.ownsMap Tryz.prog 108 rawR b nn D) (hM : MapOk w D f) (k : K3) (hk : InK k) (hx : a.eval x = keyV k)
    (h0 : f k = none → wpListIn F n Tryz.prog ops Q rest (a.put o.dst (.tuple #[zWay, .bool false])) w)
    (h1 : ∀ (y : WayV) (hops : List Hop), f k = some (y.n, hops) → HopsAt (y, hops) w → wpListIn F n Tryz.prog ops Q rest (a.put o.dst (.tuple #[.agg y.cells, .bool true])) w) :
    wpListIn F n Tryz.prog ops Q (o :: rest) a w := by
  refine wpListIn_lookup_own_ok _ hg m x _ hop 108 38 to_keyed Tryz.underlying102 rawR (zWay_run _) (.held zWay) [] rfl b nn D hm hown _ _ hx (key_to k hk) ?_
  intro v ps hv
  simp only [rawR, Option.some.injEq, Prod.mk.injEq] at hv
  obtain ⟨hv, -⟩ := hv
  cases hf : f k with
  | none =>
    obtain ⟨h2, h3⟩ := hM.none_ k hk hf
    rw [h3, DataW.held.injEq] at hv
    rw [hv, h2]
    exact h0 hf
  | some g =>
    obtain ⟨y, h2, h3, h4, h5⟩ := hM.some_ k g hk hf
    rw [h5, DataW.held.injEq] at hv
    rw [hv, h4]
    refine h1 y g.2 ?_ h3
    rw [hf, h2]

theorem wpListIn_put_way (hg : o.guard = none) (m x v : Operand) (hop : o.op = Op.mapUpdate 102 m x v) (b nn : Nat) (D : DataW Value) (f f' : K3 → Option WayG)
    (hm : a.eval m = .map (some b)) (hown : w.ownsMap Tryz.prog 108 rawR b nn D) (hM : MapOk w D f) (hn : nn < maxLen) (k : K3) (hk : InK k) (hx : a.eval x = keyV k) (y : WayV) (hops : List Hop) (hv : a.eval v = .agg y.cells) (hH : HopsAt (y, hops) w)
    (hf : ∀ k', f' k' = if k' = k then some (y.n, hops) else f k')
    (hK : ∀ w' D', w'.ownsMap Tryz.prog 108 rawR b (nn + 1) D' → MapOk w' D' f' → w.grownBy w' (some b) → (∀ z, HopsAt z w → HopsAt z w') → wpListIn F n Tryz.prog ops Q rest (a.put o.dst undef) w') :
    wpListIn F n Tryz.prog ops Q (o :: rest) a w := by
  refine wpListIn_mapUpdate_own _ hg m x v _ hop 108 38 to_keyed Tryz.underlying102 rawR b nn D hm hown hn _ _ _ hx hv (key_to k hk) _ [] rfl ?_
  intro w' h1 h2
  have hH2 : ∀ z, HopsAt z w → HopsAt z w' := fun z hz => hopsAt_own 0 z w w' (some b) hz h2 (fun r hr => ⟨Nat.zero_le _, by
    obtain ⟨es, cl, h3, _⟩ := hown
    simp only [Option.some.injEq] at hr
    subst hr
    exact ⟨_, h3, rfl⟩⟩)
  exact hK w' _ h1 ((hM.put hown.isMap k hk y hops hH hf).move hH2) h2 hH2
end

section
variable {ops : Array Oper} {rest : List Oper} {o : Oper} {a : Act} {Q : Exit → Act → World → Prop} {w : World}
/-- a step of the loop over the map -/
theorem wpList_next_way (hg : o.guard = none) (it : Operand) (hop : o.op = Op.next it false) (b r n : Nat) (D : DataW Value) (left : Lit → Bool) (cnt : Nat) (f : K3 → Option WayG)
    (hit : a.eval it = .pointer (some ⟨r, 0, none⟩)) (h : w.ranges Tryz.prog 108 rawR b r n D left cnt) {W0 : World} (hM : MapOk W0 D f) (hl : ∀ kl, left kl = true → Maps.has D kl = true)
    (hDone : (∀ kl, left kl = false) → wpList Tryz.prog ops Q rest (a.put o.dst (.tuple #[.bool false])) w)
    (hMore : ∀ (k : K3) (y : WayV) (hops : List Hop) (w' : World) (cnt' : Nat), InK k → f k = some (y.n, hops) → HopsAt (y, hops) W0 → left (klit k) = true → w'.ranges Tryz.prog 108 rawR b r n D (fun z => left z && !z.sameKey (klit k)) cnt' → cnt' < cnt →
      w.grownBy w' (some r) → w'.heap.size = w.heap.size → (Instr.entry (.pointer (some ⟨r, 0, none⟩))).run Tryz.prog w' = .ok (.tuple #[keyV k, .agg y.cells]) w' → wpList Tryz.prog ops Q rest (a.put o.dst (.tuple #[.bool true, keyV k, .agg y.cells])) w') :
    wpList Tryz.prog ops Q (o :: rest) a w := by
  refine wpList_next_ranges _ hg it hop 108 to_keyed rawR (fun v : Value => v) (fun v : Value => v) (fun key kl _ => ⟨key, rfl⟩) (fun v y _ => ⟨v, rfl⟩) b r n D left cnt hit h (fun _ => hDone) ?_
  intro x c kl y w' cnt' hkey hlk hR hat hrg hlt hgr hsz hen
  obtain ⟨k, g, hf, rfl⟩ := hM.all kl (hl kl hlk)
  have hk := hM.ink k g hf
  obtain ⟨z, h2, h3, h4, h5⟩ := hM.some_ k g hk hf
  simp only [rawR, Option.some.injEq] at hR
  subst hR
  have hc := hat (.held zWay)
  rw [h5, DataW.held.injEq] at hc
  have hx : x = keyV k := to_keyed.inj hkey (key_to k hk)
  rw [hx, ← hc] at hen ⊢
  exact hMore k z g.2 w' cnt' hk (by rw [hf, h2]) h3 hlk hrg hlt hgr hsz hen
end
end Go.Proofs.YtiikagabdiphkaaGreat
namespace Go.Proofs.YtiikagabdiphkaaGreat
open Go.RowKit Go.Lo

abbrev yL (x : WayY) : List Value := wayL x.1
theorem yE : RowE yL 10 := ⟨fun x => wayE.len x.1, fun x => wayE.one x.1, wayE.pos⟩
theorem yC : CmpF yL (fun x y : WayY => ltK x.1 y.1) 94 := ⟨lcmpF.enters, fun x y W => lcmpF.call x.1 y.1 W⟩
theorem yS : Sort.SWO (fun x y : WayY => ltK x.1 y.1) := ⟨fun x => swo_ltK.irrefl x.1, fun x y z => swo_ltK.trans x.1 y.1 z.1, fun x y z => swo_ltK.ntrans x.1 y.1 z.1⟩

theorem sortY_any (B : Nat) (v : Value) (out : List WayY) (w : World) (ho : w.ownsRow B 38 10 v out.length (out.flatMap yL)) (hn : out.length ≤ 1000000) :
    Calls Tryz.prog 93 #[v, .func (.func 94) #[] #[]] w fun e w' => e = .returned (.tuple #[]) ∧
      ∃ out' : List WayY, out'.Perm out ∧ w'.ownsRow B 38 10 v out.length (out'.flatMap yL) ∧ w.grownBy w' v.ownBlock := by
  obtain ⟨hl, ⟨rfl, h0⟩ | ⟨g, cap, cur, rfl, hBg, hg, hnc, hcm, hcs, htk⟩⟩ := id ho
  · have C := sortwB_one none 0 0 (.func (.func 94) #[] #[]) (Nat.zero_le _) w
    refine Calls.mono C ?_
    rintro e w' ⟨rfl, rfl⟩
    exact ⟨rfl, out, List.Perm.refl _, ho, grown_refl _ _⟩
  · have hcur : cur = ((out.toArray).toList.flatMap yL ++ cur.toList.drop (out.length * 10)).toArray := by
      simp only
      rw [← htk, List.take_append_drop]
    have hR : RowC yL 38 w g (cur.toList.drop (out.length * 10)) out.toArray w := ⟨by rw [← hcur]; exact hg, rfl, rfl, rfl, Nat.le_refl _, fun _ _ _ => rfl⟩
    have C := sortC_any yE yC yS g out.length cap _ (by omega) out.toArray w hR (by simp)
    refine Calls.mono C ?_
    rintro e w' ⟨rfl, d', hR', hP, -⟩
    have hsz : d'.size = out.length := by rw [hP.1]; simp
    have hperm : d'.toList.Perm out := by
      have := hP.2.2
      rw [← hsz] at this
      have e1 : d'.extract 0 d'.size = d' := by simp
      have e2 : out.toArray.extract 0 d'.size = out.toArray := by rw [hsz]; simp
      rw [e1, e2] at this
      exact this
    refine ⟨rfl, d'.toList, hperm, ⟨?_, .inr ⟨g, cap, _, rfl, hBg, hR'.blk, hnc, hcm, ?_, ?_⟩⟩, ⟨hR'.os, hR'.tape, hR'.output, hR'.size, fun b hb hne => hR'.other b hb fun e => hne (by rw [e]; rfl)⟩⟩
    · rw [flat_len yE.len]; simp [hsz]
    · have h1 := congrArg Array.size hcur
      simp only [List.size_toArray, List.length_append, flat_len yE.len, Array.length_toList] at h1 ⊢
      generalize (List.drop (out.length * 10) cur.toList).length = z at *
      have h2 : out.toArray.size = out.length := by simp
      omega
    · rw [List.take_append_of_le_length (by rw [flat_len yE.len]; simp [hsz]), List.take_of_length_le (by rw [flat_len yE.len]; simp [hsz])]
end Go.Proofs.YtiikagabdiphkaaGreat
namespace Go.Proofs.YtiikagabdiphkaaGreat
open Go.RowKit Go.Lo Go.Maps
attribute [local go_sem] Oper.semAt_some

theorem HopsAt.call {x : WayY} {W W' : World} (h : HopsAt x W) (hb : Below W.heap.size W W') : HopsAt x W' := (h.below hb).more hb.size
/-- what is asked of a way that is yielded -/
def YOk (m : Nat) (g : WayG) : Prop := InK (keyG g.1) ∧ g.2.length ≤ m

/-- what holds between the rounds -/
structure LI (w : World) (m : Nat) (pre : List WayY) (W : World) : Prop where
  map : ∃ D, W.ownsMap Tryz.prog 108 rawR w.heap.size pre.length D ∧ MapOk W D (bestF (gOf pre))
  c3 : W.cell? ⟨w.heap.size + 1, 0, none⟩ = some (.map (some w.heap.size))
  c4 : W.cell? ⟨w.heap.size + 1 + 1, 0, none⟩ = some (.func (.func 92) #[] #[])
  le : ∀ y ∈ pre, y.2.length ≤ m
  below : Below w.heap.size w W
  size : w.heap.size + 3 ≤ W.heap.size
theorem LI.grown {w : World} {m : Nat} {pre : List WayY} {W W' : World} {row : Option Nat} (h : LI w m pre W) (hg : W.grownBy W' row) (hr : ∀ r, row = some r → w.heap.size < r ∧ ∃ o : Obj, W.heap[r]? = some o ∧ o.isCells = false) : LI w m pre W' := by
  obtain ⟨D, h1, h2⟩ := h.map
  have hH : ∀ x, HopsAt x W → HopsAt x W' := fun x hx => hopsAt_own 0 x W W' row hx hg fun r e => ⟨Nat.zero_le _, (hr r e).2⟩
  refine ⟨⟨D, h1.kept hg fun e => ?_, h2.move hH⟩, cell_kept h.c3 hg fun r e => (hr r e).2, cell_kept h.c4 hg fun r e => (hr r e).2, h.le, h.below.trans (below_of_grown hg (Nat.le_of_lt h1.lt) fun g e => Nat.le_of_lt (hr g e).1), Nat.le_trans h.size hg.size⟩
  exact absurd (hr _ e.symm).1 (by omega)
theorem LI.own {w : World} {m B : Nat} (hB : w.heap.size < B) : OwnFrom B (LI w m) := fun _ _ _ _ h hg hr => h.grown hg fun r e => ⟨Nat.lt_of_lt_of_le hB (hr r e).1, (hr r e).2⟩
theorem LI.call {w : World} {m : Nat} {pre : List WayY} {W W' : World} (h : LI w m pre W) (hB : Below W.heap.size W W') : LI w m pre W' := h.grown (grown_of_below hB none) fun _ e => by cases e
theorem gOf_snoc (pre : List WayY) (x : WayY) : gOf (pre ++ [x]) = gOf pre ++ [(x.1.n, x.2)] := by simp [gOf]
/-- a round ends: the map is as it was -/
theorem LI.stay {w : World} {m B : Nat} {pre : List WayY} {x : WayY} {W W' : World} (h : LI w m pre W) (hx : x.2.length ≤ m) (hb : Below W.heap.size W W') (hf : bestF (gOf (pre ++ [x])) = bestF (gOf pre)) : KeepsFrom B W W' ∧ Below w.heap.size W W' ∧ LI w m (pre ++ [x]) W' := by
  have h2 := h.call hb
  obtain ⟨D, h3, h4⟩ := h2.map
  obtain ⟨D0, h5, _⟩ := h.map
  refine ⟨KeepsFrom.of_grownBy (grown_of_below hb none) (fun _ e => by cases e), hb.mono (Nat.le_of_lt h5.lt), ⟨D, h3.mono (by simp), by rw [hf]; exact h4⟩, h2.c3, h2.c4, fun y hy => ?_, h2.below, h2.size⟩
  rcases List.mem_append.1 hy with hy | hy
  · exact h.le y hy
  · simp only [List.mem_singleton] at hy
    rw [hy]; exact hx
/-- a round ends: the map is written -/
theorem LI.wrote {w : World} {m B : Nat} {pre : List WayY} {x : WayY} {W W2 W' : World} {D2 D' : DataW Value} (h : LI w m pre W) (hBw : w.heap.size < B) (hx : x.2.length ≤ m) (hb : Below W.heap.size W W2) (hown2 : W2.ownsMap Tryz.prog 108 rawR w.heap.size pre.length D2) (hown : W'.ownsMap Tryz.prog 108 rawR w.heap.size (pre.length + 1) D')
    (hM : MapOk W' D' (bestF (gOf (pre ++ [x])))) (hg : W2.grownBy W' (some w.heap.size)) : KeepsFrom B W W' ∧ Below w.heap.size W W' ∧ LI w m (pre ++ [x]) W' := by
  have h2 := h.call hb
  have hrow : ∀ r, some w.heap.size = some r → ∃ o : Obj, W2.heap[r]? = some o ∧ o.isCells = false := fun r e => by
    obtain ⟨es, cl, h3, _⟩ := hown2
    simp only [Option.some.injEq] at e
    subst e
    exact ⟨_, h3, rfl⟩
  obtain ⟨D0, h5, _⟩ := h.map
  have hb2 : Below w.heap.size W2 W' := below_of_grown hg (Nat.le_of_lt hown2.lt) fun g e => by simp only [Option.some.injEq] at e; omega
  refine ⟨(KeepsFrom.of_grownBy (grown_of_below hb none) fun _ e => by cases e).trans (KeepsFrom.of_grownBy hg fun j e => by simp only [Option.some.injEq] at e; omega), (hb.mono (Nat.le_of_lt h5.lt)).trans hb2, ⟨D', by simpa using hown, hM⟩, cell_kept h2.c3 hg hrow, cell_kept h2.c4 hg hrow, fun y hy => ?_, h2.below.trans hb2, Nat.le_trans h2.size hg.size⟩
  rcases List.mem_append.1 hy with hy | hy
  · exact h.le y hy
  · simp only [List.mem_singleton] at hy
    rw [hy]; exact hx

/-- where a round begins -/
def LAx (w : World) (lb : Array Value) (B : Nat) (x : WayY) (a : Act) (W : World) : Prop :=
  ∃ b5, B ≤ b5 ∧ a = { tmps := #[.func (.func 95) #[] lb, undef, .slice none 0 0, .pointer (some ⟨w.heap.size + 1, 0, none⟩), .pointer (some ⟨w.heap.size + 1 + 1, 0, none⟩), .pointer (some ⟨b5, 0, none⟩), undef, undef, undef, undef, undef, undef, .map (some w.heap.size), .func (.func 95) #[] lb, .agg x.1.cells, undef, undef, undef, undef, undef, undef, undef, undef, undef, undef, undef, undef, undef, undef, undef, undef, undef, undef, undef, undef, undef, undef, undef, undef, undef, undef, undef, undef, undef, undef, undef, undef, undef, undef, undef, undef, undef, undef, undef, undef, undef, undef, undef, undef, undef, undef, undef, undef, undef, undef, undef], defers := [] } ∧ Blk W b5 38 x.1.cells
theorem LAx.own {w : World} {lb : Array Value} {B : Nat} (x : WayY) (B' : Nat) : OwnFrom B' (LAx w lb B x) := fun _ _ _ _ h hg hr => by
  obtain ⟨b5, h1, h2, h3⟩ := h
  refine ⟨b5, h1, h2, Blk.same h3 (hg.block b5 h3.lt fun e => ?_)⟩
  obtain ⟨_, o, h4, h5⟩ := hr b5 e.symm
  rw [h3] at h4
  cases h4
  cases h5

/-- the list that is handed back -/
def LeastPost (N : Nat) (f : K3 → Option WayG) (w : World) (e : Ending) (w' : World) : Prop :=
  ∃ (v : Value) (out : List WayY), e = .returned v ∧ w'.ownsRow w.heap.size 38 10 v out.length (out.flatMap yL) ∧ (∀ x ∈ out, HopsAt x w') ∧ (out.map fun x => keyG x.1.n).Nodup ∧ (∀ x ∈ out, f (keyG x.1.n) = some (x.1.n, x.2)) ∧ (∀ k g, f k = some g → ∃ x ∈ out, keyG x.1.n = k) ∧ out.length ≤ N ∧ Below w.heap.size w w'

/-- what holds between the rounds of the second loop -/
structure LR (W0 : World) (f : K3 → Option WayG) (D : DataW Value) (b n1 n N m : Nat) (v : Value) (wr : World) (left : Lit → Bool) (out : List WayY) : Prop where
  rg : wr.ranges Tryz.prog 108 rawR b n1 n D left m
  has : ∀ kl, left kl = true → Maps.has D kl = true
  own : wr.ownsRow (n1 + 1) 38 10 v out.length (out.flatMap yL)
  below : Below n1 W0 wr
  lt : n1 < wr.heap.size
  hops : ∀ x ∈ out, HopsAt x W0
  outs : ∀ x ∈ out, InK (keyG x.1.n) ∧ f (keyG x.1.n) = some (x.1.n, x.2) ∧ left (klit (keyG x.1.n)) = false
  all : ∀ k g, f k = some g → left (klit k) = false → ∃ x ∈ out, keyG x.1.n = k
  nodup : (out.map fun x => keyG x.1.n).Nodup
  len : out.length + m ≤ N

set_option maxRecDepth 100000 in
set_option maxHeartbeats 4000000 in
theorem least_any (m N : Nat) (hmN : m * N ≤ 100000) (hN : N ≤ 1000000) (lb : Array Value) (Sx : List WayY → Prop) (w : World)
    (hseq : SeqPre Fence.wide 4 Tryz.prog 95 lb (fun x : WayY => #[.agg x.1.cells]) (Below w.heap.size) (fun x W => HopsAt x W ∧ YOk m (x.1.n, x.2)) Sx N w) (hSN : ∀ ys, Sx ys → ys.length ≤ N) :
    Calls Tryz.prog 51 #[.func (.func 95) #[] lb] w fun e w' => ∃ ys, Sx ys ∧ LeastPost N (bestF (gOf ys)) w e w' := by
  have hmm := @run_makeMap Tryz.prog
  refine (callsIn_wide (n := 5)).1 ?_
  refine callsIn_of_wp_marks Tryz.func51 rfl trivial ?_ rfl
  simp only [Tryz.ntmps51, List.size_toArray, List.length_cons, List.length_nil, Nat.reduceAdd, Nat.reduceSub, Array.replicate_succ, Array.replicate_zero, List.push_toArray, List.append_toArray, List.nil_append, List.cons_append]
  gi_wp2
  rename_i Q0 K0 hcont
  obtain ⟨w1, hw1⟩ : ∃ w1, ((w.alloc (.map #[] 0)).alloc (.cells #[.map (some w.heap.size)] 102)).alloc (.cells #[.func (.func 92) #[] #[]] 164) = w1 := ⟨_, rfl⟩
  have hz1 : w1.heap.size = w.heap.size + 3 := by rw [← hw1]; simp
  have hI1 : LI w m [] w1 := by
    have h1 := ((World.ownsMap_made w Tryz.prog 108 rawR).alloc (.cells #[.map (some w.heap.size)] 102)).alloc (.cells #[.func (.func 92) #[] #[]] 164)
    have k3 := ((Blk.new (w.alloc (.map #[] 0)) 102 #[.map (some w.heap.size)]).below (Below.alloc (Below.refl _ _) (Nat.le_refl _) (.cells #[.func (.func 92) #[] #[]] 164)) (by simp)).cell 0
    have k4 := (Blk.new ((w.alloc (.map #[] 0)).alloc (.cells #[.map (some w.heap.size)] 102)) 164 #[.func (.func 92) #[] #[]]).cell 0
    simp only [World.size_alloc] at k3 k4
    rw [← hw1]
    exact ⟨⟨_, h1, MapOk.start _⟩, k3, k4, fun y hy => (by cases hy), (((Below.refl _ w).alloc (Nat.le_refl _) _).alloc (by simp) _).alloc (by simp; omega) _, by simp⟩
  rw [hw1]
  clear hw1
  have hY : ∀ x : WayY, OwnFrom w1.heap.size (LAx w lb w1.heap.size x) := fun x => LAx.own x _
  refine wpIn_rangeFunc_box rfl (by omega) (gf := 95) (lb := lb) rfl trivial (enters_of Tryz.func95 (by kernel_rfl) rfl) hseq (fun h1 h2 => h1.trans h2)
    (fun W l o o' hl h1 h2 h3 => ?hKb) hI1.below (fun _ => rfl) ?hPre (LI w m) (LI.own (by omega)) hI1 (LAx w lb w1.heap.size) hY ?assign ?body ?done
  case hKb => exact belowK_b (w := w1) (by omega) W l o o' hl h1 h2 h3
  case hPre => exact fun x W W' row hs hg hr => ⟨hopsAt_own w1.heap.size x W W' row hs.1 hg hr, hs.2⟩
  case assign =>
    rintro l pre x W K hI ⟨hHx, hkx⟩ hK
    obtain ⟨xv, xh⟩ := x
    gi_wp2
    have hz := hI.size
    have hb := Below.alloc (Below.refl W.heap.size W) (Nat.le_refl _) (.cells xv.cells 38)
    exact hK _ _ (KeepsFrom.of_grownBy (grown_of_below hb none) (fun _ e => by cases e)) (hb.mono (by omega)) (hI.call hb) ⟨hopsAt_own 0 _ _ _ none hHx (grown_of_below hb none) (fun _ e => by cases e), hkx⟩ ⟨W.heap.size, by omega, rfl, Blk.new W _ xv.cells⟩
  case body =>
    clear hseq hY hI1
    rintro l pre ⟨⟨⟨x0, x1, x2, x3, x4, x5, x6, x7, x8⟩, xA, xn, xc⟩, xh⟩ a5 W hI ⟨hHx, hkx, hmx⟩ ⟨b5, hb5, rfl, kx⟩ hlt
    dsimp only [WayV.cells, wayC, keyG] at kx hkx hmx ⊢
    have hbl := kx.lt
    have hzW := hI.size
    have x3_ := hI.c3
    have x4_ := hI.c4
    have y0 := kx.cell 0
    have y1 := kx.cell 1
    have y2 := kx.cell 2
    have y3 := kx.cell 3
    have y4 := kx.cell 4
    have y5 := kx.cell 5
    have y6 := kx.cell 6
    have y7 := kx.cell 7
    have y8 := kx.cell 8
    have y9 := kx.cell 9
    simp only [List.getElem?_toArray, List.getElem?_cons_zero, List.getElem?_cons_succ] at y0 y1 y2 y3 y4 y5 y6 y7 y8 y9
    gi_upto_region 6 with fail
    have hb2 : Below W.heap.size W (W.alloc (.cells #[.int .u32 x0, .int .u8 x1, .int .u32 x2] 108)) := Below.alloc (Below.refl _ _) (Nat.le_refl _) _
    have k6 := Blk.new W 108 #[.int .u32 x0, .int .u8 x1, .int .u32 x2]
    have hz2 : (W.alloc (.cells #[.int .u32 x0, .int .u8 x1, .int .u32 x2] 108)).heap.size = W.heap.size + 1 := by simp
    generalize W.alloc (.cells #[.int .u32 x0, .int .u8 x1, .int .u32 x2] 108) = w2 at *
    clear x3_ x4_ y0 y1 y2 y3 y4 y5 y6 y7 y8 y9
    replace hz2 := Lib.hid hz2
    have hI2 := hI.call hb2
    have kx2 := kx.below hb2 hbl
    have hHx2 := hopsAt_own 0 _ _ _ none hHx (grown_of_below hb2 none) (fun _ e => by cases e)
    obtain ⟨D, hown, hM⟩ := hI2.map
    have x3_ := hI2.c3
    have x4_ := hI2.c4
    have k6_0 := k6.cell 0
    have k6_1 := k6.cell 1
    have k6_2 := k6.cell 2
    simp only [List.getElem?_toArray, List.getElem?_cons_zero, List.getElem?_cons_succ] at k6_0 k6_1 k6_2
    gi_upto_region 7 with (gi_at_lookup; refine wpListIn_lookup_way rfl _ _ rfl _ _ D _ rfl hown hM (x0, x1, x2) hkx rfl (fun hf => ?_) (fun y yh hf hHy => ?_))
    · have hb3 : Below W.heap.size W (w2.alloc (.cells #[.int .u32 0, .int .u8 0, .int .u32 0, .int .u8 0, .int .u8 0, .int .u32 0, .int .u32 0, .int .u32 0, .int .u32 0, .slice none 0 0] 38)) := below_alloc hb2 (Nat.le_refl _) _
      have k63 := k6.alloc (.cells #[.int .u32 0, .int .u8 0, .int .u32 0, .int .u8 0, .int .u8 0, .int .u32 0, .int .u32 0, .int .u32 0, .int .u32 0, .slice none 0 0] 38)
      clear x3_ x4_ k6_0 k6_1 k6_2 hown hM hI2 kx2 hHx2 k6
      generalize w2.alloc (.cells #[.int .u32 0, .int .u8 0, .int .u32 0, .int .u8 0, .int .u8 0, .int .u32 0, .int .u32 0, .int .u32 0, .int .u32 0, .slice none 0 0] 38) = w3 at *
      have hI3 := hI.call hb3
      have kx3 := kx.below hb3 hbl
      have hHx3 := hopsAt_own 0 _ _ _ none hHx (grown_of_below hb3 none) (fun _ e => by cases e)
      obtain ⟨D3, hown3, hM3⟩ := hI3.map
      have x3_ := hI3.c3
      have hfx : ∀ k', (bestF (gOf (pre ++ [((⟨⟨x0, x1, x2, x3, x4, x5, x6, x7, x8⟩, xA, xn, xc⟩, xh) : WayY)]))) k' = if k' = (x0, x1, x2) then some (⟨x0, x1, x2, x3, x4, x5, x6, x7, x8⟩, xh) else bestF (gOf pre) k' := fun k' => by
        rw [gOf_snoc, bestF_snoc]
        show (if k' = (x0, x1, x2) then some (bestStep (bestF (gOf pre) k') (⟨x0, x1, x2, x3, x4, x5, x6, x7, x8⟩, xh)) else bestF (gOf pre) k') = _
        by_cases hk : k' = (x0, x1, x2)
        · rw [if_pos hk, if_pos hk, hk, hf]; rfl
        · rw [if_neg hk, if_neg hk]
      have y0 := kx3.cell 0
      have y1 := kx3.cell 1
      have y2 := kx3.cell 2
      have y3 := kx3.cell 3
      have y4 := kx3.cell 4
      have y5 := kx3.cell 5
      have y6 := kx3.cell 6
      have y7 := kx3.cell 7
      have y8 := kx3.cell 8
      have y9 := kx3.cell 9
      simp only [List.getElem?_toArray, List.getElem?_cons_zero, List.getElem?_cons_succ] at y0 y1 y2 y3 y4 y5 y6 y7 y8 y9
      have k6_0 := k63.cell 0
      have k6_1 := k63.cell 1
      have k6_2 := k63.cell 2
      simp only [List.getElem?_toArray, List.getElem?_cons_zero, List.getElem?_cons_succ] at k6_0 k6_1 k6_2
      gi_upto_region 8 with fail
      refine ⟨fun _ h => (by cases h), ?_⟩
      gi_wp2_with (gi_at_mapUpdate; refine wpListIn_put_way rfl _ _ _ rfl w.heap.size pre.length D3 _ (bestF (gOf (pre ++ [((⟨⟨x0, x1, x2, x3, x4, x5, x6, x7, x8⟩, xA, xn, xc⟩, xh) : WayY)]))) rfl hown3 hM3 (by simp only [maxLen]; omega) (x0, x1, x2) hkx rfl ⟨⟨x0, x1, x2, x3, x4, x5, x6, x7, x8⟩, xA, xn, xc⟩ xh rfl hHx3 hfx ?_; intro w4 D4 hown4 hM4 hg4 hH4)
      exact hI.wrote (by omega) hmx hb3 hown3 hown4 hM4 hg4
    · have hb3 : Below W.heap.size W (w2.alloc (.cells (wayC y.n (.slice y.A y.len y.cap)) 38)) := below_alloc hb2 (Nat.le_refl _) _
      have k63 := k6.alloc (.cells (wayC y.n (.slice y.A y.len y.cap)) 38)
      have k73 := Blk.new w2 38 (wayC y.n (.slice y.A y.len y.cap))
      have hz3 : (w2.alloc (.cells (wayC y.n (.slice y.A y.len y.cap)) 38)).heap.size = w2.heap.size + 1 := by simp
      have hb23 : Below w2.heap.size w2 (w2.alloc (.cells (wayC y.n (.slice y.A y.len y.cap)) 38)) := below_alloc (Below.refl _ _) (Nat.le_refl _) _
      have hzW2 := hb2.size
      have hyl := bestF_len m (gOf pre) (fun g hg => by
        obtain ⟨z, hz, rfl⟩ := List.mem_map.1 hg
        exact hI.le z hz) _ _ hf
      have hyl2 : yh.length ≤ 100000 := by
        have h1 : m * (gOf pre).length ≤ m * N := Nat.mul_le_mul_left m (by simp [gOf]; omega)
        simp only at hyl
        omega
      have hxl2 : xh.length ≤ 100000 := by
        have h1 : m * 1 ≤ m * N := Nat.mul_le_mul_left m (by omega)
        omega
      clear x3_ x4_ k6_0 k6_1 k6_2 hown hM hI2 kx2 hHx2 k6 hyl
      dsimp only [wayC] at hb3 k63 k73 hz3 hb23
      generalize w2.alloc (.cells #[.int .u32 y.n.addr, .int .u8 y.n.bits, .int .u32 y.n.router, .int .u8 y.n.flags, .int .u8 y.n.kind, .int .u32 y.n.area, .int .u32 y.n.cost, .int .u32 y.n.far, .int .u32 y.n.tag, .slice y.A y.len y.cap] 38) = w3 at *
      replace hHy := hHy.call hb23
      replace hHx := HopsAt.call hHx hb3
      clear hb23
      replace hz3 := Lib.hid hz3
      have hI3 := hI.call hb3
      have kx3 := kx.below hb3 hbl
      have x3_ := hI3.c3
      have x4_ := hI3.c4
      have CB1 := fun W => lbetter_any ⟨⟨x0, x1, x2, x3, x4, x5, x6, x7, x8⟩, xA, xn, xc⟩ y W
      have CB2 := fun W => lbetter_any y ⟨⟨x0, x1, x2, x3, x4, x5, x6, x7, x8⟩, xA, xn, xc⟩ W
      dsimp only [WayV.cells, wayC] at CB1 CB2
      replace CB1 := Lib.hid CB1
      replace CB2 := Lib.hid CB2
      have y0 := kx3.cell 0
      have y1 := kx3.cell 1
      have y2 := kx3.cell 2
      have y3 := kx3.cell 3
      have y4 := kx3.cell 4
      have y5 := kx3.cell 5
      have y6 := kx3.cell 6
      have y7 := kx3.cell 7
      have y8 := kx3.cell 8
      have y9 := kx3.cell 9
      simp only [List.getElem?_toArray, List.getElem?_cons_zero, List.getElem?_cons_succ] at y0 y1 y2 y3 y4 y5 y6 y7 y8 y9
      have k6_0 := k63.cell 0
      have k6_1 := k63.cell 1
      have k6_2 := k63.cell 2
      simp only [List.getElem?_toArray, List.getElem?_cons_zero, List.getElem?_cons_succ] at k6_0 k6_1 k6_2
      have z0 := k73.cell 0
      have z1 := k73.cell 1
      have z2 := k73.cell 2
      have z3 := k73.cell 3
      have z4 := k73.cell 4
      have z5 := k73.cell 5
      have z6 := k73.cell 6
      have z7 := k73.cell 7
      have z8 := k73.cell 8
      have z9 := k73.cell 9
      simp only [List.getElem?_toArray, List.getElem?_cons_zero, List.getElem?_cons_succ] at z0 z1 z2 z3 z4 z5 z6 z7 z8 z9
      by_cases hlt1 : x6 < y.n.cost
      · gi_upto_region 8 with (refine ⟨trivial, ?_⟩; gi_at_call 92; refine (CallsIn.inRound l (callsIn_wide.2 (CB1.out _))).mono ?_; rintro e w4 ⟨rfl, hB4⟩; rw [decide_eq_true hlt1])
        have hb4 : Below W.heap.size W w4 := hb3.trans (hB4.mono hb3.size)
        have hI4 := hI.call hb4
        have kx4 := kx.below hb4 hbl
        have k64 := Blk.call hB4 k63
        clear y0 y1 y2 y3 y4 y5 y6 y7 y8 y9 z0 z1 z2 z3 z4 z5 z6 z7 z8 z9 k6_0 k6_1 k6_2 x3_ x4_
        have x3_ := hI4.c3
        have x4_ := hI4.c4
        obtain ⟨D4, hown4, hM4⟩ := hI4.map
        have y0 := kx4.cell 0
        have y1 := kx4.cell 1
        have y2 := kx4.cell 2
        have y3 := kx4.cell 3
        have y4 := kx4.cell 4
        have y5 := kx4.cell 5
        have y6 := kx4.cell 6
        have y7 := kx4.cell 7
        have y8 := kx4.cell 8
        have y9 := kx4.cell 9
        simp only [List.getElem?_toArray, List.getElem?_cons_zero, List.getElem?_cons_succ] at y0 y1 y2 y3 y4 y5 y6 y7 y8 y9
        have k6_0 := k64.cell 0
        have k6_1 := k64.cell 1
        have k6_2 := k64.cell 2
        simp only [List.getElem?_toArray, List.getElem?_cons_zero, List.getElem?_cons_succ] at k6_0 k6_1 k6_2
        have hHx4 := HopsAt.call hHx hB4
        have hfx : ∀ k', (bestF (gOf (pre ++ [((⟨⟨x0, x1, x2, x3, x4, x5, x6, x7, x8⟩, xA, xn, xc⟩, xh) : WayY)]))) k' = if k' = (x0, x1, x2) then some (⟨x0, x1, x2, x3, x4, x5, x6, x7, x8⟩, xh) else bestF (gOf pre) k' := fun k' => by
          rw [gOf_snoc, bestF_snoc]
          show (if k' = (x0, x1, x2) then some (bestStep (bestF (gOf pre) k') (⟨x0, x1, x2, x3, x4, x5, x6, x7, x8⟩, xh)) else bestF (gOf pre) k') = _
          by_cases hk : k' = (x0, x1, x2)
          · rw [if_pos hk, if_pos hk, hk, hf]
            simp only [bestStep]
            rw [if_pos hlt1]
          · rw [if_neg hk, if_neg hk]
        gi_wp2_with (gi_at_mapUpdate; refine wpListIn_put_way rfl _ _ _ rfl w.heap.size pre.length D4 _ (bestF (gOf (pre ++ [((⟨⟨x0, x1, x2, x3, x4, x5, x6, x7, x8⟩, xA, xn, xc⟩, xh) : WayY)]))) rfl hown4 hM4 (by simp only [maxLen]; omega) (x0, x1, x2) hkx rfl ⟨⟨x0, x1, x2, x3, x4, x5, x6, x7, x8⟩, xA, xn, xc⟩ xh rfl hHx4 hfx ?_; intro w5 D5 hown5 hM5 hg5 hH5)
        exact hI.wrote (by omega) hmx hb4 hown4 hown5 hM5 hg5
      · gi_upto_region 9 with (refine ⟨trivial, ?_⟩; gi_at_call 92; refine (CallsIn.inRound l (callsIn_wide.2 (CB1.out _))).mono ?_; rintro e w4 ⟨rfl, hB4⟩; rw [decide_eq_false hlt1])
        have hb4 : Below W.heap.size W w4 := hb3.trans (hB4.mono hb3.size)
        have hI4 := hI.call hb4
        have kx4 := kx.below hb4 hbl
        have k64 := Blk.call hB4 k63
        have k74 := Blk.call hB4 k73
        clear y0 y1 y2 y3 y4 y5 y6 y7 y8 y9 z0 z1 z2 z3 z4 z5 z6 z7 z8 z9 k6_0 k6_1 k6_2 x3_ x4_
        have x3_ := hI4.c3
        have x4_ := hI4.c4
        have y0 := kx4.cell 0
        have y1 := kx4.cell 1
        have y2 := kx4.cell 2
        have y3 := kx4.cell 3
        have y4 := kx4.cell 4
        have y5 := kx4.cell 5
        have y6 := kx4.cell 6
        have y7 := kx4.cell 7
        have y8 := kx4.cell 8
        have y9 := kx4.cell 9
        simp only [List.getElem?_toArray, List.getElem?_cons_zero, List.getElem?_cons_succ] at y0 y1 y2 y3 y4 y5 y6 y7 y8 y9
        have k6_0 := k64.cell 0
        have k6_1 := k64.cell 1
        have k6_2 := k64.cell 2
        simp only [List.getElem?_toArray, List.getElem?_cons_zero, List.getElem?_cons_succ] at k6_0 k6_1 k6_2
        have z0 := k74.cell 0
        have z1 := k74.cell 1
        have z2 := k74.cell 2
        have z3 := k74.cell 3
        have z4 := k74.cell 4
        have z5 := k74.cell 5
        have z6 := k74.cell 6
        have z7 := k74.cell 7
        have z8 := k74.cell 8
        have z9 := k74.cell 9
        simp only [List.getElem?_toArray, List.getElem?_cons_zero, List.getElem?_cons_succ] at z0 z1 z2 z3 z4 z5 z6 z7 z8 z9
        by_cases hlt2 : y.n.cost < x6
        · gi_wp2_with (refine ⟨trivial, ?_⟩; gi_at_call 92; refine (CallsIn.inRound l (callsIn_wide.2 (CB2.out _))).mono ?_; rintro e w5 ⟨rfl, hC5⟩; rw [decide_eq_true hlt2])
          have hb5 : Below W.heap.size W w5 := hb4.trans (hC5.mono hb4.size)
          refine hI.stay hmx hb5 (funext fun k' => ?_)
          rw [gOf_snoc, bestF_snoc]
          show (if k' = (x0, x1, x2) then some (bestStep (bestF (gOf pre) k') (⟨x0, x1, x2, x3, x4, x5, x6, x7, x8⟩, xh)) else bestF (gOf pre) k') = _
          by_cases hk : k' = (x0, x1, x2)
          · rw [if_pos hk, hk, hf]
            simp only [bestStep]
            rw [if_neg (show ¬ x6 < y.n.cost by omega), if_pos hlt2]
          · rw [if_neg hk]
        gi_upto_region 10 with (refine ⟨trivial, ?_⟩; gi_at_call 92; refine (CallsIn.inRound l (callsIn_wide.2 (CB2.out _))).mono ?_; rintro e w5 ⟨rfl, hC5⟩; rw [decide_eq_false hlt2])
        have hB5 : Below w3.heap.size w3 w5 := hB4.trans (hC5.mono hB4.size)
        clear hC5
        have hb5 : Below W.heap.size W w5 := hb3.trans (hB5.mono hb3.size)
        have hI5 := hI.call hb5
        have kx5 := kx.below hb5 hbl
        have k65 := Blk.call hB5 k63
        have k75 := Blk.call hB5 k73
        clear y0 y1 y2 y3 y4 y5 y6 y7 y8 y9 z0 z1 z2 z3 z4 z5 z6 z7 z8 z9 k6_0 k6_1 k6_2 x3_ x4_ kx4 k64 k74 hI4
        have x3_ := hI5.c3
        have x4_ := hI5.c4
        have y0 := kx5.cell 0
        have y1 := kx5.cell 1
        have y2 := kx5.cell 2
        have y3 := kx5.cell 3
        have y4 := kx5.cell 4
        have y5 := kx5.cell 5
        have y6 := kx5.cell 6
        have y7 := kx5.cell 7
        have y8 := kx5.cell 8
        have y9 := kx5.cell 9
        simp only [List.getElem?_toArray, List.getElem?_cons_zero, List.getElem?_cons_succ] at y0 y1 y2 y3 y4 y5 y6 y7 y8 y9
        have k6_0 := k65.cell 0
        have k6_1 := k65.cell 1
        have k6_2 := k65.cell 2
        simp only [List.getElem?_toArray, List.getElem?_cons_zero, List.getElem?_cons_succ] at k6_0 k6_1 k6_2
        have z0 := k75.cell 0
        have z1 := k75.cell 1
        have z2 := k75.cell 2
        have z3 := k75.cell 3
        have z4 := k75.cell 4
        have z5 := k75.cell 5
        have z6 := k75.cell 6
        have z7 := k75.cell 7
        have z8 := k75.cell 8
        have z9 := k75.cell 9
        simp only [List.getElem?_toArray, List.getElem?_cons_zero, List.getElem?_cons_succ] at z0 z1 z2 z3 z4 z5 z6 z7 z8 z9
        have CJ := Lib.hid (join_any yh xh (.slice y.A y.len y.cap) (.slice xA xn xc) w5 (HopsAt.call hHy hB5) (HopsAt.call hHx hB5) (by omega))
        have hz37 : w2.heap.size < w5.heap.size := by have h1 := hz3.out; have h2 := hB5.size; omega
        gi_upto_region 11 with (refine ⟨trivial, ?_⟩; gi_at_call 53; refine (CallsIn.inRound l (callsIn_wide.2 CJ.out)).mono ?_; rintro e w6 ⟨v6, rfl, ho6, hB6⟩; obtain ⟨-, A6, c6, rfl, -⟩ := id (Sl.of_own ho6); have k76 := Blk.call hB6 k75; have ez6 := k76.free 9; have z9 := k76.cell 9; simp only [List.getElem?_toArray, List.getElem?_cons_zero, List.getElem?_cons_succ] at z9)
        have hq : w2.heap.size < w6.heap.size := Nat.lt_of_lt_of_le hz37 hB6.size
        have hb7 : Below W.heap.size W (w6.setCell ⟨w2.heap.size, 9, none⟩ (.slice A6 (puts (puts [] yh) xh).length c6)) := (hb5.trans (hB6.mono hb5.size)).setCell hb2.size _
        have k77 : Blk (w6.setCell ⟨w2.heap.size, 9, none⟩ (.slice A6 (puts (puts [] yh) xh).length c6)) w2.heap.size 38 #[.int .u32 y.n.addr, .int .u8 y.n.bits, .int .u32 y.n.router, .int .u8 y.n.flags, .int .u8 y.n.kind, .int .u32 y.n.area, .int .u32 y.n.cost, .int .u32 y.n.far, .int .u32 y.n.tag, .slice A6 (puts (puts [] yh) xh).length c6] := k76.set_ 9 _
        have k67 := (Blk.call hB6 k65).far (p := ⟨w2.heap.size, 9, none⟩) (by have h1 := hz2.out; show W.heap.size ≠ w2.heap.size; omega) (.slice A6 (puts (puts [] yh) xh).length c6)
        have hH7 := Sl.of_own (own_far ho6 (p := ⟨w2.heap.size, 9, none⟩) hz37 (.slice A6 (puts (puts [] yh) xh).length c6))
        clear y0 y1 y2 y3 y4 y5 y6 y7 y8 y9 z0 z1 z2 z3 z4 z5 z6 z7 z8 z9 k6_0 k6_1 k6_2 x3_ x4_ kx5 k65 k75 k76 hI5 ez6 ho6
        generalize w6.setCell ⟨w2.heap.size, 9, none⟩ (.slice A6 (puts (puts [] yh) xh).length c6) = w7 at *
        have hI7 := hI.call hb7
        have kx7 := kx.below hb7 hbl
        have x3_ := hI7.c3
        obtain ⟨D7, hown7, hM7⟩ := hI7.map
        have y0 := kx7.cell 0
        have y1 := kx7.cell 1
        have y2 := kx7.cell 2
        have y3 := kx7.cell 3
        have y4 := kx7.cell 4
        have y5 := kx7.cell 5
        have y6 := kx7.cell 6
        have y7 := kx7.cell 7
        have y8 := kx7.cell 8
        have y9 := kx7.cell 9
        simp only [List.getElem?_toArray, List.getElem?_cons_zero, List.getElem?_cons_succ] at y0 y1 y2 y3 y4 y5 y6 y7 y8 y9
        have k6_0 := k67.cell 0
        have k6_1 := k67.cell 1
        have k6_2 := k67.cell 2
        simp only [List.getElem?_toArray, List.getElem?_cons_zero, List.getElem?_cons_succ] at k6_0 k6_1 k6_2
        have z0 := k77.cell 0
        have z1 := k77.cell 1
        have z2 := k77.cell 2
        have z3 := k77.cell 3
        have z4 := k77.cell 4
        have z5 := k77.cell 5
        have z6 := k77.cell 6
        have z7 := k77.cell 7
        have z8 := k77.cell 8
        have z9 := k77.cell 9
        simp only [List.getElem?_toArray, List.getElem?_cons_zero, List.getElem?_cons_succ] at z0 z1 z2 z3 z4 z5 z6 z7 z8 z9
        have hfx : ∀ k', (bestF (gOf (pre ++ [((⟨⟨x0, x1, x2, x3, x4, x5, x6, x7, x8⟩, xA, xn, xc⟩, xh) : WayY)]))) k' = if k' = (x0, x1, x2) then some (y.n, puts (puts [] yh) xh) else bestF (gOf pre) k' := fun k' => by
          rw [gOf_snoc, bestF_snoc]
          show (if k' = (x0, x1, x2) then some (bestStep (bestF (gOf pre) k') (⟨x0, x1, x2, x3, x4, x5, x6, x7, x8⟩, xh)) else bestF (gOf pre) k') = _
          by_cases hk : k' = (x0, x1, x2)
          · rw [if_pos hk, if_pos hk, hk, hf]
            simp only [bestStep]
            rw [if_neg (show ¬ x6 < y.n.cost by omega), if_neg (show ¬ y.n.cost < x6 by omega)]
          · rw [if_neg hk, if_neg hk]
        have hH7b : HopsAt (⟨y.n, A6, (puts (puts [] yh) xh).length, c6⟩, puts (puts [] yh) xh) w7 := hH7
        gi_wp2_with (gi_at_mapUpdate; refine wpListIn_put_way rfl _ _ _ rfl w.heap.size pre.length D7 _ (bestF (gOf (pre ++ [((⟨⟨x0, x1, x2, x3, x4, x5, x6, x7, x8⟩, xA, xn, xc⟩, xh) : WayY)]))) rfl hown7 hM7 (by simp only [maxLen]; omega) (x0, x1, x2) hkx rfl ⟨y.n, A6, (puts (puts [] yh) xh).length, c6⟩ (puts (puts [] yh) xh) rfl hH7b hfx ?_; intro w8 D8 hown8 hM8 hg8 hH8)
        exact hI.wrote (by omega) hmx hb7 hown7 hown8 hM8 hg8
  case done =>
    clear hseq hY hI1
    rintro D0 xs W hD0 hSx hI hdef
    have hxN := hSN xs hSx
    refine hcont _ _ (wpIn_wide.2 ?_)
    clear hcont
    obtain ⟨D, hown, hM⟩ := hI.map
    have x3_ := hI.c3
    have hsz := hown.size_le
    have hzW := hI.size
    go_wp2_with (first | (at_range; refine wpList_range_own _ rfl _ 102 rfl 108 38 to_keyed Tryz.underlying102 rawR w.heap.size xs.length D rfl hown ?_; intro w2 hrg2 hg2 hs2) | fail)
    go_frame
    go_loopg [9] (Maps.size D) (fun c v wr => ∃ left out, LR W (bestF (gOf xs)) D w.heap.size W.heap.size xs.length N c v wr left out)
    case atStart => exact ⟨Maps.has D, [], hrg2, fun _ h => h, World.ownsRow_nil _ _ _ _, below_of_grown hg2 (Nat.le_refl _) (fun _ e => by cases e), by omega, fun _ h => (by cases h), fun _ h => (by cases h), fun k g hk hl => (by
      obtain ⟨x, -, -, h3, -⟩ := hM.some_ k g (hM.ink k g hk) hk
      rw [hl] at h3; cases h3), List.nodup_nil, by simp; omega⟩
    case round =>
      obtain ⟨left, out, hR⟩ := hrel
      obtain ⟨w3, rfl⟩ : ∃ x : World, x = wr := ⟨_, rfl⟩
      have hlen := hR.len
      have CS := Lib.hid (sortY_any (W.heap.size + 1) u9 out w3 hR.own (by omega))
      go_upto_region 15 with (at_next; refine wpList_next_way rfl _ rfl w.heap.size W.heap.size xs.length D left _ (bestF (gOf xs)) rfl hR.rg hM hR.has (fun hl => ?_) (fun k y hops w4 cnt' hk hf hHy hlk hrg4 hlt4 hg4 hs4 hen4 => ?_))
      · refine Calls.mono CS.out ?_
        rintro e w5 ⟨rfl, out', hp, ho', hg'⟩
        have hbl := hR.below
        have hlt3 := hR.lt
        have hown9 : ∀ g, u9.ownBlock = some g → W.heap.size + 1 ≤ g ∧ g < w3.heap.size := fun g hg => hR.own.lt g hg
        have hb5 : Below W.heap.size w3 w5 := below_of_grown hg' (Nat.le_of_lt hlt3) fun g hg => by have := (hown9 g hg).1; omega
        have hD0l : D0 < W.heap.size := (Array.getElem?_eq_some_iff.1 hdef).1
        have hdef5 : w5.heap[D0]? = some (.deferred (some [])) := ((hbl.trans hb5).block D0 hD0l).trans hdef
        go_wp2
        refine ⟨by simp, .inl ⟨_, _, rfl, run_takeDeferred hdef5, ?_⟩⟩
        refine ⟨_, results_tmp rfl _ _ _, xs, hSx, u9, out', rfl, ?_⟩
        have hB0 : Below w.heap.size w5 (w5.putObj D0 (.deferred none)) := belowK_b (w := w1) (by omega) w5 D0 _ _ hD0 hdef5 rfl rfl
        have hgp : w5.grownBy (w5.putObj D0 (.deferred none)) (some D0) := grownBy_putObj' _ D0 _
        have hH : ∀ x, HopsAt x W → HopsAt x (w5.putObj D0 (.deferred none)) := fun x hx => hopsAt_own 0 _ _ _ (some D0) (HopsAt.call hx (hbl.trans hb5)) hgp fun r e => by
          simp only [Option.some.injEq] at e
          subst e
          exact ⟨Nat.zero_le _, _, hdef5, rfl⟩
        have hpl := hp.length_eq
        refine ⟨?_, fun x hx => hH x (hR.hops x (hp.mem_iff.1 hx)), (hp.map _).nodup_iff.2 hR.nodup, fun x hx => (hR.outs x (hp.mem_iff.1 hx)).2.1, fun k g hk => ?_, by omega, hI.below.trans ((hbl.trans hb5).mono (by omega) |>.trans hB0)⟩
        · rw [hpl]
          refine own_less (own_same ho' fun g hg => ?_) (show w.heap.size ≤ W.heap.size + 1 by omega)
          exact World.putObj_heap_other (by have := (hown9 g hg).1; omega)
        · obtain ⟨x, hx, hk2⟩ := hR.all k g hk (hl _)
          exact ⟨x, hp.mem_iff.2 hx, hk2⟩
      · have ho4 : w4.ownsRow (W.heap.size + 1) 38 10 u9 out.length (out.flatMap yL) := own_same hR.own fun g hg => hg4.block g (hR.own.lt g hg).2 fun e => by
          simp only [Option.some.injEq] at e
          have := (hR.own.lt g hg).1
          omega
        have hb4 : Below W.heap.size W w4 := hR.below.trans (below_of_grown hg4 (Nat.le_of_lt hR.lt) fun g e => by simp only [Option.some.injEq] at e; omega)
        have hlt4' : W.heap.size < w4.heap.size := by have := hR.lt; omega
        clear hs4
        have hyk : keyG y.n = k := bestF_key _ _ _ hf
        clear CS
        go_upto_region 16 with fail
        have kt := Blk.new w4 38 #[.int .u32 y.n.addr, .int .u8 y.n.bits, .int .u32 y.n.router, .int .u8 y.n.flags, .int .u8 y.n.kind, .int .u32 y.n.area, .int .u32 y.n.cost, .int .u32 y.n.far, .int .u32 y.n.tag, .slice y.A y.len y.cap]
        have ho5 := own_alloc ho4 (.cells #[.int .u32 y.n.addr, .int .u8 y.n.bits, .int .u32 y.n.router, .int .u8 y.n.flags, .int .u8 y.n.kind, .int .u32 y.n.area, .int .u32 y.n.cost, .int .u32 y.n.far, .int .u32 y.n.tag, .slice y.A y.len y.cap] 38)
        have hrg5 := hrg4.alloc (.cells #[.int .u32 y.n.addr, .int .u8 y.n.bits, .int .u32 y.n.router, .int .u8 y.n.flags, .int .u8 y.n.kind, .int .u32 y.n.area, .int .u32 y.n.cost, .int .u32 y.n.far, .int .u32 y.n.tag, .slice y.A y.len y.cap] 38)
        have hb5 : Below W.heap.size W (w4.alloc (.cells #[.int .u32 y.n.addr, .int .u8 y.n.bits, .int .u32 y.n.router, .int .u8 y.n.flags, .int .u8 y.n.kind, .int .u32 y.n.area, .int .u32 y.n.cost, .int .u32 y.n.far, .int .u32 y.n.tag, .slice y.A y.len y.cap] 38)) := hb4.alloc hb4.size _
        have hlt5 : W.heap.size < (w4.alloc (.cells #[.int .u32 y.n.addr, .int .u8 y.n.bits, .int .u32 y.n.router, .int .u8 y.n.flags, .int .u8 y.n.kind, .int .u32 y.n.area, .int .u32 y.n.cost, .int .u32 y.n.far, .int .u32 y.n.tag, .slice y.A y.len y.cap] 38)).heap.size := by simp; omega
        generalize w4.alloc (.cells #[.int .u32 y.n.addr, .int .u8 y.n.bits, .int .u32 y.n.router, .int .u8 y.n.flags, .int .u8 y.n.kind, .int .u32 y.n.area, .int .u32 y.n.cost, .int .u32 y.n.far, .int .u32 y.n.tag, .slice y.A y.len y.cap] 38) = w5 at *
        have hrg6 := hrg5.alloc (.cells #[.int .u32 y.n.addr, .int .u8 y.n.bits, .int .u32 y.n.router, .int .u8 y.n.flags, .int .u8 y.n.kind, .int .u32 y.n.area, .int .u32 y.n.cost, .int .u32 y.n.far, .int .u32 y.n.tag, .slice y.A y.len y.cap] 38)
        have hb6 : Below W.heap.size W (w5.alloc (.cells #[.int .u32 y.n.addr, .int .u8 y.n.bits, .int .u32 y.n.router, .int .u8 y.n.flags, .int .u8 y.n.kind, .int .u32 y.n.area, .int .u32 y.n.cost, .int .u32 y.n.far, .int .u32 y.n.tag, .slice y.A y.len y.cap] 38)) := hb5.alloc hb5.size _
        have t0 := kt.cell 0
        have t1 := kt.cell 1
        have t2 := kt.cell 2
        have t3 := kt.cell 3
        have t4 := kt.cell 4
        have t5 := kt.cell 5
        have t6 := kt.cell 6
        have t7 := kt.cell 7
        have t8 := kt.cell 8
        have t9 := kt.cell 9
        simp only [List.getElem?_toArray, List.getElem?_cons_zero, List.getElem?_cons_succ] at t0 t1 t2 t3 t4 t5 t6 t7 t8 t9
        go_wp2_with (first
          | (at_builtin; refine wpList_append rfl (.tmp 59) (.tmp 61) 30 rfl (W.heap.size + 1) wayT u9 out.length (out.flatMap yL) rfl (own_alloc ho5 _) _ _ 1 [.int .u32 y.n.addr, .int .u8 y.n.bits, .int .u32 y.n.router, .int .u8 y.n.flags, .int .u8 y.n.kind, .int .u32 y.n.area, .int .u32 y.n.cost, .int .u32 y.n.far, .int .u32 y.n.tag, .slice y.A y.len y.cap] rfl (Sl.lit w5 #[.int .u32 y.n.addr, .int .u8 y.n.bits, .int .u32 y.n.router, .int .u8 y.n.flags, .int .u8 y.n.kind, .int .u32 y.n.area, .int .u32 y.n.cost, .int .u32 y.n.far, .int .u32 y.n.tag, .slice y.A y.len y.cap] 38 (by simp [maxLen]) rfl) (by simp [Value.oneCell']) (by simp only [maxLen]; omega) (by omega) (by simp; omega) ?_; intro v7 w7 ho7 hg7 hob7))
        have hbb : ∀ g, u9.ownBlock = some g → W.heap.size + 1 ≤ g := fun g hg => (ho5.lt g hg).1
        have hb7 : Below W.heap.size W w7 := hb6.trans (below_of_grown hg7 (by simp; omega) fun g hg => by have := hbb g hg; omega)
        have hwl := hI.size
        have hrg7 := hrg6.kept hg7 (fun e => by have := hbb _ e.symm; omega) (fun e => by have := hbb _ e.symm; omega)
        have hk1 : (klit k).sameKey (klit k) = true := WideAt.sameKey_self (klit_key k hk)
        go_roundg cnt'
        case measure => omega
        case rel =>
          refine ⟨_, out ++ [((y, hops) : WayY)], hrg7, fun kl h => hR.has kl (by simp at h; exact h.1), ?_, hb7, by have := hg7.size; simp at this; omega, fun x hx => ?_, fun x hx => ?_, fun k' g hk' hl' => ?_, ?_, by simp; omega⟩
          · rw [List.length_append, List.flatMap_append]
            exact ho7
          · rcases List.mem_append.1 hx with hx | hx
            · exact hR.hops x hx
            · rw [List.mem_singleton.1 hx]; exact hHy
          · rcases List.mem_append.1 hx with hx | hx
            · obtain ⟨h1, h2, h3⟩ := hR.outs x hx
              exact ⟨h1, h2, by rw [h3]; rfl⟩
            · rw [List.mem_singleton.1 hx]
              show InK (keyG y.n) ∧ bestF (gOf xs) (keyG y.n) = some (y.n, hops) ∧ _
              rw [hyk]
              exact ⟨hk, hf, by rw [hk1]; simp⟩
          · cases hlk' : left (klit k') with
            | false =>
              obtain ⟨x, hx, hx2⟩ := hR.all k' g hk' hlk'
              exact ⟨x, List.mem_append.2 (.inl hx), hx2⟩
            | true =>
              rw [hlk'] at hl'
              simp only [Bool.true_and, Bool.not_eq_false'] at hl'
              have := klit_inj (hM.ink k' g hk') hk (WideAt.sameKey_eq hl')
              exact ⟨(y, hops), by simp, by rw [this]; exact hyk⟩
          · rw [List.map_append, List.nodup_append]
            refine ⟨hR.nodup, by simp, fun a ha b hb e => ?_⟩
            obtain ⟨x, hx, rfl⟩ := List.mem_map.1 ha
            simp only [List.map_cons, List.map_nil, List.mem_singleton] at hb
            have h3 := (hR.outs x hx).2.2
            rw [e, hb, hyk, hlk] at h3
            cases h3
end Go.Proofs.YtiikagabdiphkaaGreat
namespace Go.Proofs.YtiikagabdiphkaaGreat
open Go.RowKit Go.Lo

/-- the memory behind leads: its three boxes -/
abbrev LdW (sA : Option Addr) (sn sc : Nat) (self : Int) (lv : Value) (w : World) : World := ((w.alloc (.cells #[.slice sA sn sc] 23)).alloc (.cells #[.int .u32 self] 24)).alloc (.cells #[lv] 30)
theorem LdW_below (sA : Option Addr) (sn sc : Nat) (self : Int) (lv : Value) (w : World) : Below w.heap.size w (LdW sA sn sc self lv w) := (((Below.refl _ w).alloc (Nat.le_refl _) _).alloc (by simp) _).alloc (by simp; omega) _

theorem found_any (m B : Nat) (sA : Option Addr) (sc : Nat) (S : List StG) (ls : List StV) (self : Int) (lA : Option Addr) (lc : Nat) (R : List WayG) (lw : List WayV) (w : World) (hm : ∀ r ∈ R, r.2.length ≤ m) (hmN : m * S.length ≤ 100000) (hN : S.length ≤ 1000000)
    (hS : StatesIn w B (.slice sA ls.length sc) S ls) (hSo : ∀ x ∈ S, StOk x) (hW : WaysIn w B (.slice lA lw.length lc) R lw) (hR : WysOk R) (hB : B ≤ w.heap.size) :
    Calls Tryz.prog 51 #[.func (.func 95) #[] (leadsB w.heap.size)] (LdW sA ls.length sc self (.slice lA lw.length lc) w) fun e w' => LeastPost S.length (bestF (leadsP S self R)) (LdW sA ls.length sc self (.slice lA lw.length lc) w) e w' := by
  have hb := LdW_below sA ls.length sc self (.slice lA lw.length lc) w
  have hz : (LdW sA ls.length sc self (.slice lA lw.length lc) w).heap.size = w.heap.size + 3 := by simp [LdW]
  have k0 := (((Blk.new w 23 #[.slice sA ls.length sc]).alloc (.cells #[.int .u32 self] 24)).alloc (.cells #[.slice lA lw.length lc] 30)).cell 0
  have k1 := ((Blk.new (w.alloc (.cells #[.slice sA ls.length sc] 23)) 24 #[.int .u32 self]).alloc (.cells #[.slice lA lw.length lc] 30)).cell 0
  have k2 := (Blk.new ((w.alloc (.cells #[.slice sA ls.length sc] 23)).alloc (.cells #[.int .u32 self] 24)) 30 #[.slice lA lw.length lc]).cell 0
  simp only [World.size_alloc, List.getElem?_toArray, List.getElem?_cons_zero] at k0 k1 k2
  have hls := hS.len
  have hseq := leads_seq 4 (by omega) (YOk m) w.heap.size (LdW sA ls.length sc self (.slice lA lw.length lc) w).heap.size B sA sc S ls self (.slice lA lw.length lc) R lw (LdW sA ls.length sc self (.slice lA lw.length lc) w) (by omega) (Nat.le_refl _) (by omega)
    k0 k1 k2 (hS.below (hb.mono hB)) hSo (hW.below (hb.mono hB)) hR (by omega) (fun s hs g hg => leadP_ok (hSo s hs).1 hm hg)
  refine Calls.mono (least_any m S.length hmN hN _ _ _ hseq fun ys hy => ?_) ?_
  · have h1 := congrArg List.length hy
    have h2 : (leadsP S self R).length ≤ S.length := List.length_filterMap_le _ _
    simp only [gOf, List.length_map] at h1
    omega
  · rintro e w' ⟨ys, hy, hp⟩
    rw [hy] at hp
    exact hp
end Go.Proofs.YtiikagabdiphkaaGreat
namespace Go.Proofs.YtiikagabdiphkaaGreat
open Go.RowKit Go.Lo

/-- a way of an area -/
def setA (area : Int) (x : WayY) : WayY := (⟨⟨x.1.n.addr, x.1.n.bits, x.1.n.router, x.1.n.flags, x.1.n.kind, area, x.1.n.cost, x.1.n.far, x.1.n.tag⟩, x.1.A, x.1.len, x.1.cap⟩, x.2)
def netsP (area : Int) (out : List WayY) : List WayY := (out.filter fun x => x.1.n.router == 0).map (setA area)
def bordsP (area self : Int) (out : List WayY) : List WayY := (out.filter fun x => !(x.1.n.router == 0) && !(x.1.n.router == self)).map (setA area)
theorem netsP_len (area : Int) (out : List WayY) : (netsP area out).length ≤ out.length := by
  unfold netsP
  rw [List.length_map]
  exact List.length_filter_le _ _
theorem bordsP_len (area self : Int) (out : List WayY) : (bordsP area self out).length ≤ out.length := by
  unfold bordsP
  rw [List.length_map]
  exact List.length_filter_le _ _

/-- two rows that grow side by side -/
structure TwoR (w0 : World) (base : Nat) (a b : List WayY) (av bv : Value) (wr : World) : Prop where
  fst : wr.ownsRow base 38 10 av a.length (a.flatMap yL)
  snd : wr.ownsRow base 38 10 bv b.length (b.flatMap yL)
  apart : ∀ k, av.ownBlock = some k → bv.ownBlock = some k → False
  below : Below base w0 wr
theorem TwoR.alloc {w0 wr : World} {base : Nat} {a b : List WayY} {av bv : Value} (h : TwoR w0 base a b av bv wr) (hb : base ≤ w0.heap.size) (o : Obj) : TwoR w0 base a b av bv (wr.alloc o) := ⟨own_alloc h.fst o, own_alloc h.snd o, h.apart, h.below.alloc (Nat.le_trans hb h.below.size) o⟩
theorem TwoR.far {w0 wr : World} {base : Nat} {a b : List WayY} {av bv : Value} (h : TwoR w0 base a b av bv wr) {p : Addr} (hp : base ≤ p.block) (hq : ∀ k, av.ownBlock = some k ∨ bv.ownBlock = some k → k ≠ p.block) (u : Value) : TwoR w0 base a b av bv (wr.setCell p u) :=
  ⟨own_same h.fst fun k hk => Below.heap_setCell wr p u k (hq k (.inl hk)), own_same h.snd fun k hk => Below.heap_setCell wr p u k (hq k (.inr hk)), h.apart, h.below.setCell hp u⟩
theorem TwoR.swap {w0 wr : World} {base : Nat} {a b : List WayY} {av bv : Value} (h : TwoR w0 base a b av bv wr) : TwoR w0 base b a bv av wr := ⟨h.snd, h.fst, fun k h1 h2 => h.apart k h2 h1, h.below⟩
/-- the first row grows -/
theorem TwoR.grow {w0 wr w' : World} {base : Nat} {a b a' : List WayY} {av bv av' : Value} (h : TwoR w0 base a b av bv wr) (hb : base ≤ w0.heap.size) (ho : w'.ownsRow base 38 10 av' a'.length (a'.flatMap yL)) (hg : wr.grownBy w' av.ownBlock) (hv : av'.ownBlock = av.ownBlock ∨ av'.ownBlock = some wr.heap.size) : TwoR w0 base a' b av' bv w' := by
  have hs := h.below.size
  refine ⟨ho, own_same h.snd fun k hk => hg.block k (h.snd.lt k hk).2 fun e => h.apart k e.symm hk, fun k h1 h2 => ?_, h.below.trans (below_of_grown hg (by omega) fun g hg => (h.fst.lt g hg).1)⟩
  rcases hv with hv | hv
  · rw [hv] at h1; exact h.apart k h1 h2
  · rw [hv] at h1
    simp only [Option.some.injEq] at h1
    have := (h.snd.lt k h2).2
    omega

/-- what Routes hands back -/
def RoutesPost (N : Nat) (f : K3 → Option WayG) (area self : Int) (w : World) (e : Ending) (w' : World) : Prop :=
  ∃ (nv bv : Value) (out : List WayY), e = .returned (.tuple #[nv, bv]) ∧ TwoR w w.heap.size (netsP area out) (bordsP area self out) nv bv w' ∧ (∀ x ∈ out, HopsAt x w') ∧ (out.map fun x => keyG x.1.n).Nodup ∧ (∀ x ∈ out, f (keyG x.1.n) = some (x.1.n, x.2)) ∧ (∀ k g, f k = some g → ∃ x ∈ out, keyG x.1.n = k) ∧ out.length ≤ N ∧ ∃ M : Nat, M ≤ w'.heap.size ∧ (∀ k, nv.ownBlock = some k ∨ bv.ownBlock = some k → M ≤ k) ∧ ∀ x ∈ out, Sl w' M 3 (.slice x.1.A x.1.len x.1.cap) x.2.length (x.2.flatMap hopCells)

set_option maxRecDepth 100000 in
set_option maxHeartbeats 4000000 in
theorem routes_any (m B : Nat) (sA : Option Addr) (sc : Nat) (S : List StG) (ls : List StV) (area self : Int) (lA : Option Addr) (lc : Nat) (R : List WayG) (lw : List WayV) (w : World) (hm : ∀ r ∈ R, r.2.length ≤ m) (hmN : m * S.length ≤ 100000) (hN : S.length ≤ 1000000)
    (hS : StatesIn w B (.slice sA ls.length sc) S ls) (hSo : ∀ x ∈ S, StOk x) (hW : WaysIn w B (.slice lA lw.length lc) R lw) (hR : WysOk R) (hB : B ≤ w.heap.size) :
    Calls Tryz.prog 20 #[.slice sA ls.length sc, .int .u32 area, .int .u32 self, .slice lA lw.length lc] w (RoutesPost S.length (bestF (leadsP S self R)) area self w) := by
  have CL := Lib.hid (leads_any sA ls.length sc self lA lw.length lc w)
  have CF := Lib.hid (found_any m B sA sc S ls self lA lc R lw w hm hmN hN hS hSo hW hR hB)
  have hb1 := LdW_below sA ls.length sc self (.slice lA lw.length lc) w
  replace hN := Lib.hid hN
  clear hS hSo hW hR hm hmN hB
  generalize bestF (leadsP S self R) = f at *
  generalize S.length = N at *
  obtain ⟨n0, hn0⟩ : ∃ n, n = w.heap.size := ⟨_, rfl⟩
  go_enter Tryz.func20, Tryz.ntmps20
  go_wp2_with (first
    | (go_at_call 52; refine Calls.mono CL.out ?_; rintro e w1 ⟨rfl, rfl⟩)
    | (go_at_call 51; refine Calls.mono CF.out ?_; rintro e w2 ⟨v, out, rfl, ho, hH, hnd, hf, hall, hlen, hb2⟩; obtain ⟨-, vA, vc, rfl, -⟩ := id (Sl.of_own ho))
    | fail)
  have hbw : Below w.heap.size w w2 := hb1.trans (hb2.mono hb1.size)
  have hl := Sl.of_own ho
  have hz2 := hbw.size
  clear CL CF hb1 hb2 ho
  replace hnd := Lib.hid hnd
  replace hf := Lib.hid hf
  replace hall := Lib.hid hall
  replace hH := Lib.hid hH
  replace hlen := Lib.hid hlen
  replace hl := Lib.hid hl
  replace hbw := Lib.hid hbw
  go_loopg [18, 8, 9] out.length (fun c i nv bv wr => ∃ k : Nat, k ≤ out.length ∧ c = out.length - k ∧ i = .int .i64 k ∧ TwoR w2 w2.heap.size (netsP area (out.take k)) (bordsP area self (out.take k)) nv bv wr)
  case atStart => exact ⟨0, Nat.zero_le _, rfl, rfl, ⟨World.ownsRow_nil _ _ _ _, World.ownsRow_nil _ _ _ _, fun _ h => (by cases h), Below.refl _ _⟩⟩
  case round =>
    obtain ⟨k, hk, rfl, rfl, hT⟩ := hrel
    obtain ⟨w3, rfl⟩ : ∃ x : World, x = wr := ⟨_, rfl⟩
    have hzr := hT.below.size
    by_cases hkl : k < out.length
    · obtain ⟨b, off, rfl, hb0, hrow⟩ := Sl.row yE.len (hl.out.below hT.below) hkl
      have htn : netsP area (out.take (k + 1)) = netsP area (out.take k) ++ netsP area [out[k]] := by
        unfold netsP
        rw [List.take_succ_eq_append_getElem hkl, List.filter_append, List.map_append]
      have htb : bordsP area self (out.take (k + 1)) = bordsP area self (out.take k) ++ bordsP area self [out[k]] := by
        unfold bordsP
        rw [List.take_succ_eq_append_getElem hkl, List.filter_append, List.map_append]
      have hln := netsP_len area (out.take k)
      have hlb := bordsP_len area self (out.take k)
      rw [List.length_take, Nat.min_eq_left hk] at hln hlb
      have hbig : out.length ≤ 1000000 := Nat.le_trans hlen.out hN.out
      obtain ⟨x, hx⟩ : ∃ x, x = out[k] := ⟨_, rfl⟩
      rw [← hx] at hrow htn htb
      clear hx
      obtain ⟨⟨⟨x0, x1, x2, x3, x4, x5, x6, x7, x8⟩, xA, xn, xc⟩, xh⟩ := x
      have q0 : w3.cell? ⟨b, off + k * 10, none⟩ = some (.int .u32 x0) := hrow 0 _ rfl
      have q1 : w3.cell? ⟨b, off + k * 10 + 1, none⟩ = some (.int .u8 x1) := hrow 1 _ rfl
      have q2 : w3.cell? ⟨b, off + k * 10 + 2, none⟩ = some (.int .u32 x2) := hrow 2 _ rfl
      have q3 : w3.cell? ⟨b, off + k * 10 + 3, none⟩ = some (.int .u8 x3) := hrow 3 _ rfl
      have q4 : w3.cell? ⟨b, off + k * 10 + 4, none⟩ = some (.int .u8 x4) := hrow 4 _ rfl
      have q5 : w3.cell? ⟨b, off + k * 10 + 5, none⟩ = some (.int .u32 x5) := hrow 5 _ rfl
      have q6 : w3.cell? ⟨b, off + k * 10 + 6, none⟩ = some (.int .u32 x6) := hrow 6 _ rfl
      have q7 : w3.cell? ⟨b, off + k * 10 + 7, none⟩ = some (.int .u32 x7) := hrow 7 _ rfl
      have q8 : w3.cell? ⟨b, off + k * 10 + 8, none⟩ = some (.int .u32 x8) := hrow 8 _ rfl
      have q9 : w3.cell? ⟨b, off + k * 10 + 9, none⟩ = some (.slice xA xn xc) := hrow 9 _ rfl
      have ik : (k : Int) < (out.length : Int) := by omega
      replace htn := Lib.hid htn
      replace htb := Lib.hid htb
      clear hrow
      go_upto_region 4 with fail
      have kt0 := Blk.new w3 38 #[.int .u32 x0, .int .u8 x1, .int .u32 x2, .int .u8 x3, .int .u8 x4, .int .u32 x5, .int .u32 x6, .int .u32 x7, .int .u32 x8, .slice xA xn xc]
      have hT4 := hT.alloc (Nat.le_refl _) (.cells #[.int .u32 x0, .int .u8 x1, .int .u32 x2, .int .u8 x3, .int .u8 x4, .int .u32 x5, .int .u32 x6, .int .u32 x7, .int .u32 x8, .slice xA xn xc] 38)
      have ef := kt0.free 5
      have ec := kt0.cell 5
      simp only [List.getElem?_toArray, List.getElem?_cons_zero, List.getElem?_cons_succ] at ec
      clear q0 q1 q2 q3 q4 q5 q6 q7 q8 q9
      have hob : ∀ g, u8.ownBlock = some g ∨ u9.ownBlock = some g → g ≠ w3.heap.size := fun g hg => by
        rcases hg with hg | hg
        · have := (hT.fst.lt g hg).2; omega
        · have := (hT.snd.lt g hg).2; omega
      generalize w3.alloc (.cells #[.int .u32 x0, .int .u8 x1, .int .u32 x2, .int .u8 x3, .int .u8 x4, .int .u32 x5, .int .u32 x6, .int .u32 x7, .int .u32 x8, .slice xA xn xc] 38) = w4 at *
      go_upto_region 5 with fail
      have kt : Blk (w4.setCell ⟨w3.heap.size, 5, none⟩ (.int .u32 area)) w3.heap.size 38 #[.int .u32 x0, .int .u8 x1, .int .u32 x2, .int .u8 x3, .int .u8 x4, .int .u32 area, .int .u32 x6, .int .u32 x7, .int .u32 x8, .slice xA xn xc] := kt0.set_ 5 _
      have hT5 := hT4.far (p := ⟨w3.heap.size, 5, none⟩) hzr hob (.int .u32 area)
      clear ef ec kt0 hT4
      generalize w4.setCell ⟨w3.heap.size, 5, none⟩ (.int .u32 area) = w5 at *
      have hz5 := hT5.below.size
      have t0 := kt.cell 0
      have t1 := kt.cell 1
      have t2 := kt.cell 2
      have t3 := kt.cell 3
      have t4 := kt.cell 4
      have t5 := kt.cell 5
      have t6 := kt.cell 6
      have t7 := kt.cell 7
      have t8 := kt.cell 8
      have t9 := kt.cell 9
      simp only [List.getElem?_toArray, List.getElem?_cons_zero, List.getElem?_cons_succ] at t0 t1 t2 t3 t4 t5 t6 t7 t8 t9
      by_cases h0 : x2 = 0
      · subst h0
        have e1 : netsP area (out.take (k + 1)) = netsP area (out.take k) ++ [setA area (⟨⟨x0, x1, 0, x3, x4, x5, x6, x7, x8⟩, xA, xn, xc⟩, xh)] := htn.out
        have e2 : bordsP area self (out.take (k + 1)) = bordsP area self (out.take k) := by rw [htb.out]; simp [bordsP]
        clear htn htb
        replace e1 := Lib.hid e1
        replace e2 := Lib.hid e2
        have hT6 := hT5.alloc (Nat.le_refl _) (.cells #[.int .u32 x0, .int .u8 x1, .int .u32 0, .int .u8 x3, .int .u8 x4, .int .u32 area, .int .u32 x6, .int .u32 x7, .int .u32 x8, .slice xA xn xc] 38)
        go_wp2_with (first
          | (at_builtin; refine wpList_append rfl (.tmp 28) (.tmp 30) 30 rfl w2.heap.size wayT u8 (netsP area (out.take k)).length ((netsP area (out.take k)).flatMap yL) rfl hT6.fst _ _ 1 [.int .u32 x0, .int .u8 x1, .int .u32 0, .int .u8 x3, .int .u8 x4, .int .u32 area, .int .u32 x6, .int .u32 x7, .int .u32 x8, .slice xA xn xc] rfl (Sl.lit w5 #[.int .u32 x0, .int .u8 x1, .int .u32 0, .int .u8 x3, .int .u8 x4, .int .u32 area, .int .u32 x6, .int .u32 x7, .int .u32 x8, .slice xA xn xc] 38 (by simp [maxLen]) rfl) (by simp [Value.oneCell']) (by simp only [maxLen]; omega) (by omega) (by simp; omega) ?_; intro v7 w7 ho7 hg7 hob7)
          | fail)
        go_roundg (out.length - (k + 1))
        case measure => omega
        case rel =>
          refine ⟨k + 1, by omega, rfl, by go_num, ?_⟩
          rw [e1.out, e2.out]
          exact hT6.grow (Nat.le_refl _) (by rw [List.length_append, List.flatMap_append]; exact ho7) hg7 hob7
      · by_cases h1 : x2 = self
        · subst h1
          have e1 : netsP area (out.take (k + 1)) = netsP area (out.take k) := by rw [htn.out]; simp [netsP, h0]
          have e2 : bordsP area x2 (out.take (k + 1)) = bordsP area x2 (out.take k) := by rw [htb.out]; simp [bordsP]
          clear htn htb
          replace e1 := Lib.hid e1
          replace e2 := Lib.hid e2
          go_wp2_with fail
          go_roundg (out.length - (k + 1))
          case measure => omega
          case rel =>
            refine ⟨k + 1, by omega, rfl, by go_num, ?_⟩
            rw [e1.out, e2.out]
            exact hT5
        · have e1 : netsP area (out.take (k + 1)) = netsP area (out.take k) := by rw [htn.out]; simp [netsP, h0]
          have e2 : bordsP area self (out.take (k + 1)) = bordsP area self (out.take k) ++ [setA area (⟨⟨x0, x1, x2, x3, x4, x5, x6, x7, x8⟩, xA, xn, xc⟩, xh)] := by rw [htb.out]; simp [bordsP, h0, h1]
          clear htn htb
          replace e1 := Lib.hid e1
          replace e2 := Lib.hid e2
          have hT6 := hT5.alloc (Nat.le_refl _) (.cells #[.int .u32 x0, .int .u8 x1, .int .u32 x2, .int .u8 x3, .int .u8 x4, .int .u32 area, .int .u32 x6, .int .u32 x7, .int .u32 x8, .slice xA xn xc] 38)
          go_wp2_with (first
            | (at_builtin; refine wpList_append rfl (.tmp 37) (.tmp 39) 30 rfl w2.heap.size wayT u9 (bordsP area self (out.take k)).length ((bordsP area self (out.take k)).flatMap yL) rfl hT6.snd _ _ 1 [.int .u32 x0, .int .u8 x1, .int .u32 x2, .int .u8 x3, .int .u8 x4, .int .u32 area, .int .u32 x6, .int .u32 x7, .int .u32 x8, .slice xA xn xc] rfl (Sl.lit w5 #[.int .u32 x0, .int .u8 x1, .int .u32 x2, .int .u8 x3, .int .u8 x4, .int .u32 area, .int .u32 x6, .int .u32 x7, .int .u32 x8, .slice xA xn xc] 38 (by simp [maxLen]) rfl) (by simp [Value.oneCell']) (by simp only [maxLen]; omega) (by omega) (by simp; omega) ?_; intro v7 w7 ho7 hg7 hob7)
            | fail)
          go_roundg (out.length - (k + 1))
          case measure => omega
          case rel =>
            refine ⟨k + 1, by omega, rfl, by go_num, ?_⟩
            rw [e1.out, e2.out]
            exact (hT6.swap.grow (Nat.le_refl _) (by rw [List.length_append, List.flatMap_append]; exact ho7) hg7 hob7).swap
    · obtain rfl : k = out.length := by omega
      rw [List.take_length] at hT
      go_wp2_with fail
      refine bodyPost_ret (results_tmp2 rfl _ _ _) rfl ?_
      have hbw2 := hbw.out
      exact ⟨u8, u9, out, rfl, ⟨own_less hT.fst hz2, own_less hT.snd hz2, hT.apart, hbw2.trans (hT.below.mono hz2)⟩, fun x hx => (hH.out x hx).call hT.below, hnd.out, hf.out, hall.out, hlen.out, w2.heap.size, hT.below.size, fun k hk => hk.elim (fun h => (hT.fst.lt k h).1) (fun h => (hT.snd.lt k h).1), fun x hx => (hH.out x hx).below hT.below⟩
end Go.Proofs.YtiikagabdiphkaaGreat
namespace Go.Proofs.YtiikagabdiphkaaGreat
open Go.RowKit Go.Lo Go.Maps

section
variable {ops : Array Oper} {rest : List Oper} {o : Oper} {a : Act} {Q : Exit → Act → World → Prop} {w : World}
theorem wpList_lookup_way (hg : o.guard = none) (m x : Operand) (hop : o.op = Op.lookup 102 m x true) (b nn : Nat) (D : DataW Value) (f : K3 → Option WayG)
    (hm : a.eval m = .map (some b)) (hown : w.ownsMap Tryz.prog 108 rawR b nn D) {W0 : World} (hM : MapOk W0 D f) (k : K3) (hk : InK k) (hx : a.eval x = keyV k)
    (h0 : f k = none → wpList Tryz.prog ops Q rest (a.put o.dst (.tuple #[zWay, .bool false])) w)
    (h1 : ∀ (y : WayV) (hops : List Hop), f k = some (y.n, hops) → HopsAt (y, hops) W0 → wpList Tryz.prog ops Q rest (a.put o.dst (.tuple #[.agg y.cells, .bool true])) w) :
    wpList Tryz.prog ops Q (o :: rest) a w := by
  refine wpList_lookup_own_ok _ hg m x _ hop 108 38 to_keyed Tryz.underlying102 rawR (zWay_run _) (.held zWay) [] rfl b nn D hm hown _ _ hx (key_to k hk) ?_
  intro v ps hv
  simp only [rawR, Option.some.injEq, Prod.mk.injEq] at hv
  obtain ⟨hv, -⟩ := hv
  cases hf : f k with
  | none =>
    obtain ⟨h2, h3⟩ := hM.none_ k hk hf
    rw [h3, DataW.held.injEq] at hv
    rw [hv, h2]
    exact h0 hf
  | some g =>
    obtain ⟨y, h2, h3, h4, h5⟩ := hM.some_ k g hk hf
    rw [h5, DataW.held.injEq] at hv
    rw [hv, h4]
    refine h1 y g.2 ?_ h3
    rw [hf, h2]
theorem wpList_put_way (hg : o.guard = none) (m x v : Operand) (hop : o.op = Op.mapUpdate 102 m x v) (b nn : Nat) (D : DataW Value) (f f' : K3 → Option WayG)
    (hm : a.eval m = .map (some b)) (hown : w.ownsMap Tryz.prog 108 rawR b nn D) {W0 : World} (hM : MapOk W0 D f) (hn : nn < maxLen) (k : K3) (hk : InK k) (hx : a.eval x = keyV k) (y : WayV) (hops : List Hop) (hv : a.eval v = .agg y.cells) (hH : HopsAt (y, hops) W0)
    (hf : ∀ k', f' k' = if k' = k then some (y.n, hops) else f k')
    (hK : ∀ w' D', w'.ownsMap Tryz.prog 108 rawR b (nn + 1) D' → MapOk W0 D' f' → w.grownBy w' (some b) → wpList Tryz.prog ops Q rest (a.put o.dst undef) w') :
    wpList Tryz.prog ops Q (o :: rest) a w := by
  refine wpList_mapUpdate_own _ hg m x v _ hop 108 38 to_keyed Tryz.underlying102 rawR b nn D hm hown hn _ _ _ hx hv (key_to k hk) _ [] rfl ?_
  intro w' h1 h2
  exact hK w' _ h1 (hM.put hown.isMap k hk y hops hH hf) h2
end

/-- a way that a summary makes shorter, or more -/
def improves (o g : WayG) : Bool := (g.1.kind == 1 || g.1.kind == 2) && (g.1.area == 0 && decide (o.1.cost ≤ g.1.cost))
def improveP (f : K3 → Option WayG) (g : WayG) : WayG :=
  match f (keyG g.1) with
  | none => g
  | some o => if improves o g = false then g else (⟨g.1.addr, g.1.bits, g.1.router, g.1.flags, g.1.kind, g.1.area, o.1.cost, g.1.far, g.1.tag⟩, puts (puts [] (if o.1.cost < g.1.cost then [] else g.2)) o.2)

/-- a row of ways that grows, with the hops behind them -/
structure ImpR (w0 : World) (xs : List WayY) (v : Value) (wr : World) : Prop where
  own : wr.ownsRow w0.heap.size 38 10 v xs.length (xs.flatMap yL)
  hops : ∀ x ∈ xs, wr.ownsRow w0.heap.size 47 3 (.slice x.1.A x.1.len x.1.cap) x.2.length (x.2.flatMap hopCells)
  below : Below w0.heap.size w0 wr
theorem ImpR.grown {w0 wr w' : World} {xs : List WayY} {v : Value} {row : Option Nat} (h : ImpR w0 xs v wr) (hg : wr.grownBy w' row) (hr : ∀ b, row = some b → w0.heap.size ≤ b ∧ v.ownBlock ≠ some b ∧ ∃ cs, Blk wr b 38 cs) : ImpR w0 xs v w' := by
  refine ⟨own_same h.own fun k hk => hg.block k (h.own.lt k hk).2 fun e => (hr k e.symm).2.1 hk, fun x hx => own_same (h.hops x hx) fun k hk => hg.block k ((h.hops x hx).lt k hk).2 fun e => ?_, h.below.trans (below_of_grown hg h.below.size fun g hg => (hr g hg).1)⟩
  obtain ⟨-, -, cs, hb⟩ := hr k e.symm
  exact own_ne (h.hops x hx) hb (by decide) k hk rfl
theorem ImpR.call {w0 wr w' : World} {xs : List WayY} {v : Value} (h : ImpR w0 xs v wr) (hb : Below wr.heap.size wr w') : ImpR w0 xs v w' := h.grown (grown_of_below hb none) fun _ e => by cases e
theorem ImpR.alloc {w0 wr : World} {xs : List WayY} {v : Value} (h : ImpR w0 xs v wr) (o : Obj) : ImpR w0 xs v (wr.alloc o) := h.call ((Below.refl _ _).alloc (Nat.le_refl _) o)
theorem ImpR.grow {w0 wr w' : World} {xs xs' : List WayY} {x : WayY} {v v' : Value} (h : ImpR w0 xs v wr) (hx : xs' = xs ++ [x]) (hh : wr.ownsRow w0.heap.size 47 3 (.slice x.1.A x.1.len x.1.cap) x.2.length (x.2.flatMap hopCells)) (ho : w'.ownsRow w0.heap.size 38 10 v' xs'.length (xs'.flatMap yL)) (hg : wr.grownBy w' v.ownBlock) : ImpR w0 xs' v' w' := by
  refine ⟨ho, fun z hz => ?_, h.below.trans (below_of_grown hg h.below.size fun g hg => (h.own.lt g hg).1)⟩
  subst hx
  rcases List.mem_append.1 hz with hz | hz
  · exact own_grown h.own (h.hops z hz) hg (by decide)
  · rw [List.mem_singleton.1 hz]
    exact own_grown h.own hh hg (by decide)
end Go.Proofs.YtiikagabdiphkaaGreat
