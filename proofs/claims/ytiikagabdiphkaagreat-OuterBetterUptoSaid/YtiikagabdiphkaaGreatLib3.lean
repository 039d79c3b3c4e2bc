/- Cuts of a slice that reads. No theorem of the program stands here. -/
import Derived.Test.YtiikagabdiphkaaGreatLib2
namespace Go.Lo
open Go.RowKit
section
variable {P : Program}

theorem Sl.take {w : World} {B s n c k : Nat} {A : Option Addr} {xs : List Value} (h : Sl w B s (.slice A n c) n xs) (hk : k ≤ n) : Sl w B s (.slice A k c) k (xs.take (k * s)) := by
  obtain ⟨h1, A', c', hv, h2, h3, h4⟩ := h
  simp only [Value.slice.injEq] at hv
  obtain ⟨rfl, _, rfl⟩ := hv
  have hks : k * s ≤ n * s := Nat.mul_le_mul_right _ hk
  refine ⟨by rw [List.length_take, h1]; omega, A, c, rfl, by omega, h3, fun h0 => ?_⟩
  obtain ⟨b, off, hA, hb, hc⟩ := h4 (by omega)
  refine ⟨b, off, hA, hb, fun j u hu => hc j u ?_⟩
  rw [List.getElem?_take] at hu
  split at hu
  · exact hu
  · cases hu
theorem Sl.drop {w : World} {B s n c k : Nat} {A : Option Addr} {xs : List Value} (h : Sl w B s (.slice A n c) n xs) (hk : k ≤ n) :
    Sl w B s (.slice (if c = k then A else A.map (·.add (k * s))) (n - k) (c - k)) (n - k) (xs.drop (k * s)) := by
  obtain ⟨h1, A', c', hv, h2, h3, h4⟩ := h
  simp only [Value.slice.injEq] at hv
  obtain ⟨rfl, _, rfl⟩ := hv
  refine ⟨by rw [List.length_drop, h1, Nat.sub_mul], _, _, rfl, by omega, by omega, fun h0 => ?_⟩
  obtain ⟨b, off, rfl, hb, hc⟩ := h4 (by omega)
  rw [if_neg (by omega)]
  refine ⟨b, off + k * s, by simp [addr_add], hb, fun j u hu => ?_⟩
  rw [List.getElem?_drop] at hu
  rw [Nat.add_assoc]
  exact hc _ u hu

/-- 'v[k:]' -/
theorem drop_ex {t e : TypeId} {s bytes : Nat} (E : ElT P t e s bytes) (A : Option Addr) (n c k : Nat) (hk : k ≤ n) (_hnc : n ≤ c) :
    ∃ v2, (∀ W, (Instr.sliceAt t (.slice A n c) (some (.int .i64 (k : Int))) none none).run P W = .ok v2 W) ∧ ∀ (w : World) (B : Nat) (xs : List Value), Sl w B s (.slice A n c) n xs → Sl w B s v2 (n - k) (xs.drop (k * s)) := by
  obtain ⟨i, z, hi, hz, hsz, hby, hzs⟩ := E.info
  have he : P.elem t = e := by simp [Program.elem, E.sl]
  have hu : P.underlying t = some (.slice (P.elem t)) := by rw [he]; exact E.sl
  refine ⟨_, fun W => ?_, fun w B xs h => h.drop hk⟩
  rw [run_sliceAt_slice W t _ _ _ _ hu, run_slice_l W t A n c hu .i64 k (by omega) (by omega), he]
  simp [sizeOf, typeInfo, hi, hsz, sliced]
/-- 'v[:k]' -/
theorem take_ex {t e : TypeId} {s bytes : Nat} (E : ElT P t e s bytes) (A : Option Addr) (n c k : Nat) (hk : k ≤ n) (hnc : n ≤ c) :
    ∃ v2, (∀ W, (Instr.sliceAt t (.slice A n c) none (some (.int .i64 (k : Int))) none).run P W = .ok v2 W) ∧ ∀ (w : World) (B : Nat) (xs : List Value), Sl w B s (.slice A n c) n xs → Sl w B s v2 k (xs.take (k * s)) := by
  obtain ⟨i, z, hi, hz, hsz, hby, hzs⟩ := E.info
  have he : P.elem t = e := by simp [Program.elem, E.sl]
  have hu : P.underlying t = some (.slice (P.elem t)) := by rw [he]; exact E.sl
  refine ⟨.slice A k c, fun W => ?_, fun w B xs h => h.take hk⟩
  rw [run_sliceAt_slice W t _ _ _ _ hu, run_slice_h W t A n c hu .i64 k (by omega) (by omega), he]
  simp only [sizeOf, typeInfo, sliced, Sem.run_bind, Sem.run_pure]
  cases A <;> simp [Addr.add, hi]
end
end Go.Lo
