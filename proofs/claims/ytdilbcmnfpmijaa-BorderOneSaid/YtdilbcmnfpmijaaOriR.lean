/- OriginNetworks' walk where a network is told of. Conditions: the port's full neighbours lie in memory. -/
import Derived.Test.YtdilbcmnfpmijaaOriQ
namespace Go.Proofs.Ytdilbcmnfpmijaa
open Go.RowKit Go.Lo

/-- is x among the first k of l? -/
def among (l : List Int) (k : Nat) (x : Int) : Bool := (l.take k).any (· == x)

theorem among_zero (l : List Int) (x : Int) : among l 0 x = false := by simp [among]
theorem among_succ (l : List Int) (k : Nat) (x : Int) (hk : k < l.length) : among l (k + 1) x = (among l k x || l[k] == x) := by
  unfold among
  rw [List.take_succ_eq_append_getElem hk, List.any_append]
  simp
theorem among_all (l : List Int) (x : Int) (h : x ∈ l) : among l l.length x = true := by
  unfold among
  rw [List.take_length, List.any_eq_true]
  exact ⟨x, h, by simp⟩

/-- what a slice of uint32 reads -/
theorem sl_get {w : World} {B : Nat} {A : Option Addr} {c : Nat} {l : List Int} (h : Sl w B 1 (.slice A l.length c) l.length (l.flatMap u32Cells)) (hn : 0 < l.length) :
    ∃ b off, A = some ⟨b, off, none⟩ ∧ b < B ∧ ∀ k (hk : k < l.length), w.cell? ⟨b, off + k, none⟩ = some (.int .u32 l[k]) := by
  obtain ⟨_, A', c', hv, _, _, h4⟩ := h
  simp only [Value.slice.injEq] at hv
  obtain ⟨rfl, _, rfl⟩ := hv
  obtain ⟨b, off, hA, hb, hc⟩ := h4 hn
  refine ⟨b, off, hA, hb, fun k hk => hc k _ ?_⟩
  rw [u32s_map, List.getElem?_map, List.getElem?_eq_getElem hk]
  rfl
set_option maxRecDepth 100000 in
set_option maxHeartbeats 4000000 in
theorem originNet_told (p : OPort) (r o : Int) (w : World) (hp : PortAt w p) (hn : p.full.length ≤ 400) (hst : p.state = 6) (hkd : ¬ 1 < p.kind) (hf : 0 < p.full.length) : Calls Try.prog 8 #[portVal p, .int .u32 r, .int .u8 o] w fun e w' => e = .returned (.bool true) ∧ Below w.heap.size w w' := by
  have hp' := hp
  obtain ⟨kind, state, addr, netA, netB, pcost, dr, withDR, fv, full, remote⟩ := p
  obtain ⟨⟨-, A, c, hv, -⟩, -, hb0, hb1⟩ := hp
  simp only at hv hn hst hkd hf
  subst hv hst
  have hP0 : Blk (w.alloc (.cells #[.int .u8 kind, .int .u8 6, .int .u32 addr, .int .u32 netA, .int .u8 netB, .int .u16 pcost, .int .u32 dr, .bool withDR, .slice A full.length c, .int .u32 remote] 72)) w.heap.size 72 #[.int .u8 kind, .int .u8 6, .int .u32 addr, .int .u32 netA, .int .u8 netB, .int .u16 pcost, .int .u32 dr, .bool withDR, .slice A full.length c, .int .u32 remote] := Blk.new _ _ _
  have hB0 : Below w.heap.size w (w.alloc (.cells #[.int .u8 kind, .int .u8 6, .int .u32 addr, .int .u32 netA, .int .u8 netB, .int .u16 pcost, .int .u32 dr, .bool withDR, .slice A full.length c, .int .u32 remote] 72)) := (Below.refl _ _).alloc (Nat.le_refl _) _
  have hZ0 : ((w.alloc (.cells #[.int .u8 kind, .int .u8 6, .int .u32 addr, .int .u32 netA, .int .u8 netB, .int .u16 pcost, .int .u32 dr, .bool withDR, .slice A full.length c, .int .u32 remote] 72)) : World).heap.size = w.heap.size + 1 := by simp
  have i400 : ¬ (400 : Int) < (full.length : Int) := by omega
  go_enter Try.func8, Try.ntmps8
  go_upto_region 3 with fail
  generalize (w.alloc (.cells #[.int .u8 kind, .int .u8 6, .int .u32 addr, .int .u32 netA, .int .u8 netB, .int .u16 pcost, .int .u32 dr, .bool withDR, .slice A full.length c, .int .u32 remote] 72)) = W0 at hP0 hB0 hZ0 ⊢
  have hPW : PortAt W0 ⟨kind, 6, addr, netA, netB, pcost, dr, withDR, .slice A full.length c, full, remote⟩ := hp'.below hB0
  have CG := given22_any ⟨kind, 6, addr, netA, netB, pcost, dr, withDR, .slice A full.length c, full, remote⟩ W0 hPW
  dsimp only at CG
  replace CG := Lib.hid CG
  have HN : Hid (∀ (A1 : Option Addr) (c1 : Nat) (W : World), PortAt W ⟨kind, 6, addr, netA, netB, pcost, dr, withDR, .slice A1 full.length c1, full, remote⟩ → Calls Try.prog 25 #[portVal ⟨kind, 6, addr, netA, netB, pcost, dr, withDR, .slice A1 full.length c1, full, remote⟩, .int .u32 r, .int .u8 o] W (NetPost W ⟨kind, 6, addr, netA, netB, pcost, dr, withDR, .slice A1 full.length c1, full, remote⟩ r o)) := fun A1 c1 W hP => network_full _ r o W hP rfl hkd hf
  have z0 := hP0.cell 0
  have z1 := hP0.cell 1
  have z2 := hP0.cell 2
  have z3 := hP0.cell 3
  have z4 := hP0.cell 4
  have z5 := hP0.cell 5
  have z6 := hP0.cell 6
  have z7 := hP0.cell 7
  have z8 := hP0.cell 8
  have z9 := hP0.cell 9
  simp only [List.getElem?_toArray, List.getElem?_cons_zero, List.getElem?_cons_succ] at z0 z1 z2 z3 z4 z5 z6 z7 z8 z9
  replace hPW := Lib.hid hPW
  replace hp' := Lib.hid hp'
  go_upto_region 4 with (first
    | (go_at_call 23; refine Calls.mono CG.out ?_; rintro e w1 ⟨A1, c1, rfl, ho1, hB1⟩; have hz0 := hZ0; dsimp only)
    | (go_at_call 25; refine Calls.mono (HN.out A1 c1 w1 ⟨Sl.of_own ho1, by show full.length ≤ 1000000; omega, hb0, hb1⟩) ?_; rintro e w2 ⟨v, L, rfl, hv, r1, r2, r3, hB2⟩; obtain ⟨-, A2, c2, rfl, -⟩ := id hv; dsimp only [toldF] at r2 r3 ⊢)
    | (refine wpList_store_row rfl 34 (.tmp 7) (.tmp 29) rfl w2.heap.size #[.int .u8 2, .int .u32 addr, .int .u8 o, .int .u8 0, .slice none 0 0, .int .u32 (maskI netB), .slice A2 L.length c2, .int .u32 0, .bool false, .int .u32 0, .int .u32 0, .slice none 0 0] rfl rfl 34 _ (Blk.new w2 34 toldZ) (by kernel_rfl) rfl rfl ?_)
    | fail)
  have hwt : w.heap.size + 1 ≤ w2.heap.size := by have := hB1.size; have := hB2.size; omega
  have hB3 : Below (w.heap.size + 1) W0 (w2.alloc (.cells #[.int .u8 2, .int .u32 addr, .int .u8 o, .int .u8 0, .slice none 0 0, .int .u32 (maskI netB), .slice A2 L.length c2, .int .u32 0, .bool false, .int .u32 0, .int .u32 0, .slice none 0 0] 34)) := below_alloc (below_call (below_call (Below.refl _ _) hB1 (by omega)) hB2 (by omega)) (by omega) _
  have hT : Blk (w2.alloc (.cells #[.int .u8 2, .int .u32 addr, .int .u8 o, .int .u8 0, .slice none 0 0, .int .u32 (maskI netB), .slice A2 L.length c2, .int .u32 0, .bool false, .int .u32 0, .int .u32 0, .slice none 0 0] 34)) w2.heap.size 34 #[.int .u8 2, .int .u32 addr, .int .u8 o, .int .u8 0, .slice none 0 0, .int .u32 (maskI netB), .slice A2 L.length c2, .int .u32 0, .bool false, .int .u32 0, .int .u32 0, .slice none 0 0] := Blk.new _ _ _
  have hL0 : Sl (w2.alloc (.cells #[.int .u8 2, .int .u32 addr, .int .u8 o, .int .u8 0, .slice none 0 0, .int .u32 (maskI netB), .slice A2 L.length c2, .int .u32 0, .bool false, .int .u32 0, .int .u32 0, .slice none 0 0] 34)) w2.heap.size 1 (.slice A2 L.length c2) L.length (L.flatMap u32Cells) := hv.alloc (Nat.le_refl _) _
  have hbt : w2.heap.size < (w2.alloc (.cells #[.int .u8 2, .int .u32 addr, .int .u8 o, .int .u8 0, .slice none 0 0, .int .u32 (maskI netB), .slice A2 L.length c2, .int .u32 0, .bool false, .int .u32 0, .int .u32 0, .slice none 0 0] 34)).heap.size := by simp
  clear z0 z1 z2 z3 z4 z5 z6 z7 z8 z9 ho1 hB1 hB2 HN CG hv
  generalize w2.alloc (.cells #[.int .u8 2, .int .u32 addr, .int .u8 o, .int .u8 0, .slice none 0 0, .int .u32 (maskI netB), .slice A2 L.length c2, .int .u32 0, .bool false, .int .u32 0, .int .u32 0, .slice none 0 0] 34) = w3 at hB3 hT hL0 hbt ⊢
  generalize w2.heap.size = bt at hT hL0 hbt hwt ⊢
  have hLp : 0 < L.length := List.length_pos_of_mem ((r2 r).2 (by simp))
  have hLm : L.length ≤ 401 := by omega
  obtain ⟨bl, ol, rfl, hbl, hLc⟩ := sl_get hL0 hLp
  have hP3 := hP0.below hB3 (by omega)
  clear hP0 hL0 hPW
  have z0 := hP3.cell 0
  have z1 := hP3.cell 1
  have z2 := hP3.cell 2
  have z3 := hP3.cell 3
  have z4 := hP3.cell 4
  have z5 := hP3.cell 5
  have z6 := hP3.cell 6
  have z7 := hP3.cell 7
  have z8 := hP3.cell 8
  have z9 := hP3.cell 9
  simp only [List.getElem?_toArray, List.getElem?_cons_zero, List.getElem?_cons_succ] at z0 z1 z2 z3 z4 z5 z6 z7 z8 z9
  have y0 := hT.cell 0
  have y1 := hT.cell 1
  have y2 := hT.cell 2
  have y3 := hT.cell 3
  have y4 := hT.cell 4
  have y5 := hT.cell 5
  have y6 := hT.cell 6
  have y7 := hT.cell 7
  have y8 := hT.cell 8
  have y9 := hT.cell 9
  have y10 := hT.cell 10
  have y11 := hT.cell 11
  simp only [List.getElem?_toArray, List.getElem?_cons_zero, List.getElem?_cons_succ] at y0 y1 y2 y3 y4 y5 y6 y7 y8 y9 y10 y11
  have hBe : Below w.heap.size w w3 := hB0.trans (hB3.mono (by omega))
  have hws : w.heap.size < w3.heap.size := by omega
  clear hB0 hB3 hZ0 hz0
  have ik : kind ≤ 1 := by omega
  have il : (0 : Int) < (full.length : Int) := by omega
  replace r1 := Lib.hid r1
  replace r2 := Lib.hid r2
  replace hBe := Lib.hid hBe
  go_wp2_with fail
  go_loopg [10] (L.length - 1) (fun m v wr => ∃ k : Nat, 1 ≤ k ∧ k ≤ L.length ∧ m = L.length - k ∧ v = .int .i64 k ∧ Below w3.heap.size w3 wr)
  case atStart => exact ⟨1, Nat.le_refl _, hLp, rfl, rfl, Below.refl _ _⟩
  case round =>
    obtain ⟨k, hk1, hk, rfl, rfl, hbk⟩ := hrel
    by_cases hkl : k < L.length
    · have c1 := (hbk.cell (p := ⟨bl, ol + k, none⟩) (show bl < w3.heap.size by omega)).trans (hLc k hkl)
      have c0 := (hbk.cell (p := ⟨bl, ol + (k - 1), none⟩) (show bl < w3.heap.size by omega)).trans (hLc (k - 1) (by omega))
      have hlt := List.pairwise_iff_getElem.1 r1.out (k - 1) k (by omega) hkl (by omega)
      generalize L[k] = x at c1 hlt
      generalize L[k - 1] = y at c0 hlt
      have nlt : ¬ x ≤ y := by omega
      have tn : ((k : Int) - 1).toNat = k - 1 := by omega
      have iw : IntKind.i64.wrap ((k : Int) - 1) = (k : Int) - 1 := IntWalk.i64_in _ (by omega)
      have ik1 : (k : Int) < (L.length : Int) := by omega
      have im : (0 : Int) ≤ (k : Int) - 1 := by omega
      have im2 : (k : Int) - 1 < (L.length : Int) := by omega
      clear hlt z0 z1 z2 z3 z4 z5 z6 z7 z8 z9 y0 y1 y2 y3 y4 y5 y6 y7 y8 y9 y10 y11 hLc hT hP3
      go_wp2_with fail
      go_region
      go_wp2
      go_roundg (L.length - (k + 1))
      case measure => omega
      case rel => exact ⟨k + 1, by omega, by omega, rfl, by go_num, hbk.drew⟩
    · obtain rfl : k = L.length := by omega
      obtain ⟨w4, rfl⟩ : ∃ x : World, x = wr := ⟨_, rfl⟩
      clear hT hP3 z0 z1 z3 z4 z5 z6 z7 z9 y3 y4 y5 y6 y7 y8 y9 y10 y11 hk1 hk hkl
      have hS4 := below_call hBe.out hbk (Nat.le_refl _)
      have hs4 := hbk.size
      have CC := copywords_any full (.slice A full.length c) w4 ((hp'.out.1.below hS4).more hS4.size) (by omega)
      replace CC := Lib.hid CC
      have Z8 := (hbk.cell (p := ⟨w.heap.size, 8, none⟩) hws).trans z8
      go_upto_region 15 with (go_at_call 26; refine Calls.mono CC.out ?_; rintro e w5 ⟨v5, rfl, ho5, hB5⟩)
      clear Z8 CC
      obtain ⟨g5, cap5, rfl, hb5, hg5⟩ := ho5.form (by omega)
      have hs5 := hB5.size
      go_upto_region 16 with (at_builtin; refine wpList_append rfl (.tmp 72) (.tmp 74) 29 rfl w4.heap.size u32T _ _ _ rfl (own_alloc ho5 _) _ _ 1 [.int .u32 r] rfl (Sl.lit _ #[.int .u32 r] 22 (by simp [maxLen]) rfl) (by simp [Value.oneCell']) (by simp only [maxLen]; omega) (by omega) (by simp; omega) ?_; intro v6 w6 ho6 hg6 hob6)
      have hg5' : ∀ g, Value.ownBlock (.slice (some ⟨g5, 0, none⟩) full.length cap5) = some g → w3.heap.size ≤ g := fun g hg => by
        have e : g5 = g := by simpa [Value.ownBlock] using hg
        omega
      have hB6 : Below w3.heap.size w3 w6 := (below_call hbk hB5 (Nat.le_refl _)).trans (((Below.refl w3.heap.size w5).alloc (by omega) _).trans (below_of_grown hg6 (by simp; omega) hg5'))
      obtain ⟨M, hM⟩ : ∃ M : List Int, M = full ++ [r] := ⟨_, rfl⟩
      have hMl : M.length = full.length + 1 := by rw [hM]; simp
      have hM6 : Sl w6 w6.heap.size 1 v6 M.length (M.flatMap u32Cells) := by rw [hMl, hM, List.flatMap_append]; exact Sl.of_own ho6
      obtain ⟨-, A6, c6, rfl, -⟩ := id hM6
      obtain ⟨bm, om, rfl, hbm, hMc⟩ := sl_get hM6 (by omega)
      have hML : ∀ x ∈ M, x ∈ L := fun x hx => (r2.out x).2 (by rw [hM] at hx; simp at hx ⊢; exact hx.symm)
      have hLM : ∀ x ∈ L, x ∈ M := fun x hx => by have := (r2.out x).1 hx; rw [hM]; simp at this ⊢; exact this.symm
      have hSf := Lib.hid (below_call hBe.out hB6 (Nat.le_refl _))
      have hLc6 : ∀ k (hk : k < L.length), w6.cell? ⟨bl, ol + k, none⟩ = some (.int .u32 L[k]) := fun k hk => (hB6.cell (p := ⟨bl, ol + k, none⟩) (show bl < w3.heap.size by omega)).trans (hLc k hk)
      have x2 := (hB6.cell (p := ⟨w.heap.size, 2, none⟩) hws).trans z2
      have u0 := (hB6.cell (p := ⟨bt, 0, none⟩) hbt).trans y0
      have u1 := (hB6.cell (p := ⟨bt, 1, none⟩) hbt).trans y1
      have u2 := (hB6.cell (p := ⟨bt, 2, none⟩) hbt).trans y2
      have hws6 : w.heap.size < w6.heap.size := by have := hB6.size; omega
      have hbt6 : bt < w6.heap.size := by have := hB6.size; omega
      have hbl6 : bl < w6.heap.size := by have := hB6.size; omega
      clear z2 z8 y0 y1 y2 ho5 hg5 hg5' hb5 hB5 ho6 hg6 hob6 hM6 hM hB6 hS4 hbk hs4 hs5 hLc hbl hws hbt hwt hBe r1 r2 hp'
      replace hML := Lib.hid hML
      replace hLM := Lib.hid hLM
      replace hLc6 := Lib.hid hLc6
      replace hMc := Lib.hid hMc
      replace x2 := Lib.hid x2
      replace u0 := Lib.hid u0
      replace u1 := Lib.hid u1
      replace u2 := Lib.hid u2
      go_wp2_with fail
      go_loopg [12] M.length (fun m v wr => ∃ k : Nat, k ≤ M.length ∧ m = M.length - k ∧ v = .int .i64 k ∧ Below w6.heap.size w6 wr)
      case atStart => exact ⟨0, Nat.zero_le _, rfl, rfl, Below.refl _ _⟩
      case round =>
        obtain ⟨k, hk, rfl, rfl, hbk⟩ := hrel
        by_cases hkl : k < M.length
        · obtain ⟨w7, rfl⟩ : ∃ x : World, x = wr := ⟨_, rfl⟩
          have ck := (hbk.cell (p := ⟨bm, om + k, none⟩) hbm).trans (hMc.out k hkl)
          have hin := hML.out M[k] (List.getElem_mem hkl)
          obtain ⟨x, hx⟩ : ∃ x, x = M[k] := ⟨_, rfl⟩
          rw [← hx] at ck hin
          clear hx
          have ik1 : (k : Int) < (M.length : Int) := by omega
          have hs7 := hbk.size
          go_wp2_with fail
          go_loopg [13, 14] L.length (fun m f v wx => ∃ j : Nat, j ≤ L.length ∧ m = L.length - j ∧ f = .bool (among L j x) ∧ v = .int .i64 j ∧ Below w7.heap.size w7 wx)
          case atStart => exact ⟨0, Nat.zero_le _, rfl, by rw [among_zero], rfl, Below.refl _ _⟩
          case round =>
            obtain ⟨j, hj, rfl, rfl, rfl, hbj⟩ := hrel
            by_cases hjl : j < L.length
            · have cj := (hbj.cell (p := ⟨bl, ol + j, none⟩) (show bl < w7.heap.size by omega)).trans ((hbk.cell (p := ⟨bl, ol + j, none⟩) hbl6).trans (hLc6.out j hjl))
              have ck8 := (hbj.cell (p := ⟨bm, om + k, none⟩) (show bm < w7.heap.size by omega)).trans ck
              have hs := among_succ L j x hjl
              have ij1 : (j : Int) < (L.length : Int) := by omega
              generalize L[j] = y at cj hs
              clear ck
              generalize among L j x = q at hs ⊢
              cases q
              · by_cases hyx : y = x
                · subst hyx
                  go_wp2_with fail
                  go_quiet (fail)
                  go_wp2
                  go_roundg (L.length - (j + 1))
                  case measure => omega
                  case rel => exact ⟨j + 1, by omega, rfl, by rw [hs]; simp, by go_num, below_drewN hbj nq⟩
                · have e1 : (y == x) = false := beq_false_of_ne hyx
                  have e2 : (x == y) = false := beq_false_of_ne (Ne.symm hyx)
                  go_wp2_with fail
                  go_quiet (fail)
                  go_wp2
                  go_roundg (L.length - (j + 1))
                  case measure => omega
                  case rel => exact ⟨j + 1, by omega, rfl, by rw [hs, e1]; rfl, by go_num, below_drewN hbj nq⟩
              · go_wp2_with fail
                go_quiet (fail)
                go_wp2
                go_roundg (L.length - (j + 1))
                case measure => omega
                case rel => exact ⟨j + 1, by omega, rfl, by rw [hs]; rfl, by go_num, below_drewN hbj nq⟩
            · obtain rfl : j = L.length := by omega
              rw [among_all L x hin]
              go_wp2
              go_roundg (M.length - (k + 1))
              case measure => omega
              case rel => exact ⟨k + 1, by omega, rfl, by go_num, below_call hbk hbj (Nat.le_refl _)⟩
        · obtain rfl : k = M.length := by omega
          obtain ⟨w8, rfl⟩ : ∃ x : World, x = wr := ⟨_, rfl⟩
          go_wp2_with fail
          go_loopg [15] L.length (fun m v wr => ∃ k : Nat, k ≤ L.length ∧ m = L.length - k ∧ v = .int .i64 k ∧ Below w6.heap.size w6 wr)
          case atStart => exact ⟨0, Nat.zero_le _, rfl, rfl, hbk⟩
          case round =>
            obtain ⟨k, hk, rfl, rfl, hbk⟩ := hrel
            by_cases hkl : k < L.length
            · obtain ⟨w7, rfl⟩ : ∃ x : World, x = wr := ⟨_, rfl⟩
              have ck := (hbk.cell (p := ⟨bl, ol + k, none⟩) hbl6).trans (hLc6.out k hkl)
              have hin := hLM.out L[k] (List.getElem_mem hkl)
              obtain ⟨x, hx⟩ : ∃ x, x = L[k] := ⟨_, rfl⟩
              rw [← hx] at ck hin
              clear hx
              have ik1 : (k : Int) < (L.length : Int) := by omega
              have hs7 := hbk.size
              go_wp2_with fail
              go_loopg [16, 17] M.length (fun m f v wx => ∃ j : Nat, j ≤ M.length ∧ m = M.length - j ∧ f = .bool (among M j x) ∧ v = .int .i64 j ∧ Below w7.heap.size w7 wx)
              case atStart => exact ⟨0, Nat.zero_le _, rfl, by rw [among_zero], rfl, Below.refl _ _⟩
              case round =>
                obtain ⟨j, hj, rfl, rfl, rfl, hbj⟩ := hrel
                by_cases hjl : j < M.length
                · have cj := (hbj.cell (p := ⟨bm, om + j, none⟩) (show bm < w7.heap.size by omega)).trans ((hbk.cell (p := ⟨bm, om + j, none⟩) hbm).trans (hMc.out j hjl))
                  have ck8 := (hbj.cell (p := ⟨bl, ol + k, none⟩) (show bl < w7.heap.size by omega)).trans ck
                  have hs := among_succ M j x hjl
                  have ij1 : (j : Int) < (M.length : Int) := by omega
                  generalize M[j] = y at cj hs
                  clear ck
                  generalize among M j x = q at hs ⊢
                  cases q
                  · by_cases hyx : y = x
                    · subst hyx
                      go_wp2_with fail
                      go_quiet (fail)
                      go_wp2
                      go_roundg (M.length - (j + 1))
                      case measure => omega
                      case rel => exact ⟨j + 1, by omega, rfl, by rw [hs]; simp, by go_num, below_drewN hbj nq⟩
                    · have e1 : (y == x) = false := beq_false_of_ne hyx
                      have e2 : (x == y) = false := beq_false_of_ne (Ne.symm hyx)
                      go_wp2_with fail
                      go_quiet (fail)
                      go_wp2
                      go_roundg (M.length - (j + 1))
                      case measure => omega
                      case rel => exact ⟨j + 1, by omega, rfl, by rw [hs, e1]; rfl, by go_num, below_drewN hbj nq⟩
                  · go_wp2_with fail
                    go_quiet (fail)
                    go_wp2
                    go_roundg (M.length - (j + 1))
                    case measure => omega
                    case rel => exact ⟨j + 1, by omega, rfl, by rw [hs]; rfl, by go_num, below_drewN hbj nq⟩
                · obtain rfl : j = M.length := by omega
                  rw [among_all M x hin]
                  go_wp2
                  go_roundg (L.length - (k + 1))
                  case measure => omega
                  case rel => exact ⟨k + 1, by omega, rfl, by go_num, below_call hbk hbj (Nat.le_refl _)⟩
            · obtain rfl : k = L.length := by omega
              obtain ⟨w8, rfl⟩ : ∃ x : World, x = wr := ⟨_, rfl⟩
              have X2 := (hbk.cell (p := ⟨w.heap.size, 2, none⟩) hws6).trans x2.out
              have U0 := (hbk.cell (p := ⟨bt, 0, none⟩) hbt6).trans u0.out
              have U1 := (hbk.cell (p := ⟨bt, 1, none⟩) hbt6).trans u1.out
              have U2 := (hbk.cell (p := ⟨bt, 2, none⟩) hbt6).trans u2.out
              have hSl := Lib.hid (below_call hSf.out hbk (Nat.le_refl _))
              go_wp2_with (go_at_call 11; refine Calls.mono (works22_any _) ?_; rintro e w9 ⟨rfl, hB9⟩)
              go_ret
              exact ⟨rfl, below_call hSl.out hB9 (Nat.le_refl _)⟩
end Go.Proofs.Ytdilbcmnfpmijaa
