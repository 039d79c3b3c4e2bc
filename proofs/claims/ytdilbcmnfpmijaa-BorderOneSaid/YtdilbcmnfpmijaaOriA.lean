/- origin's table of functions, and prefix's Mask. -/
import Derived.Test.YtdilbcmnfpmijaaTreeA
import Derived.Test.YtdilbcmnfpmijaaLib2
import Derived.Carry
namespace Go.Proofs.Ytdilbcmnfpmijaa
open Go.RowKit Go.Lo

section
variable {P : Program}
theorem alloc_set (w : World) (o o' : Obj) : ({ w.alloc o with heap := (w.alloc o).heap.setIfInBounds w.heap.size o' } : World) = w.alloc o' := by
  show ({ w with heap := (w.heap.push o).setIfInBounds w.heap.size o' } : World) = { w with heap := w.heap.push o' }
  congr 1
  apply Array.ext_getElem?
  intro i
  simp only [Array.getElem?_setIfInBounds, Array.getElem?_push, Array.size_push]
  by_cases h : w.heap.size = i
  · subst h; simp
  · rw [if_neg h, if_neg (fun e => h e.symm), if_neg (fun e => h e.symm)]

theorem run_upd8 {mty kt et : TypeId} (hm : P.underlying mty = some (.map kt et)) (hk : P.underlying kt = some (.int .u8)) (w : World) (es : Array MapEntry) (clock : Nat) (k : Int) (v : Value)
    (hf : Instr.findNow (.int .u8) (.int .u8 k) es.toList 0 = some none) :
    (Instr.mapUpdate mty (.map (some w.heap.size)) (.int .u8 k) v).run P (w.alloc (.map es clock)) = .ok () (w.alloc (.map (es.push { key := .int .u8 k, val := v, born := clock }) (clock + 1))) := by
  have hb : (w.alloc (.map es clock)).heap[w.heap.size]? = some (.map es clock) := heap_alloc_new w _
  have hc : (Instr.checkKey false 10000 kt (.int .u8 k)).run P (w.alloc (.map es clock)) = .ok () (w.alloc (.map es clock)) := MapKept.run_checkKey hk (by simp [MapKept.IsKey]) false 9999
  simp only [Instr.mapUpdate, Sem.run_bind, run_underlying hm, MapKept.run_getObj_map hb, hc, MapKept.run_findKey hk hf, MapKept.run_setObj_map _ hb, Result.andThen]
  rw [alloc_set]

theorem run_look8 {mty kt et : TypeId} (hm : P.underlying mty = some (.map kt et)) (hk : P.underlying kt = some (.int .u8)) {w : World} {r : Nat} {es : Array MapEntry} {clock : Nat} (hb : w.heap[r]? = some (.map es clock)) (k : Int) {i : Nat} {v : Value}
    (hf : Instr.findNow (.int .u8) (.int .u8 k) es.toList 0 = some (some (i, v))) :
    (Instr.lookup mty (.map (some r)) (.int .u8 k) true).run P w = .ok (.tuple #[v, .bool true]) w := by
  have hc : (Instr.checkKey es.isEmpty 10000 kt (.int .u8 k)).run P w = .ok () w := MapKept.run_checkKey hk (by simp [MapKept.IsKey]) _ 9999
  simp [Instr.lookup, run_underlying hm, MapKept.run_getObj_map hb, hc, MapKept.run_findKey hk hf, Result.andThen]

theorem run_miss8 {mty kt et : TypeId} (hm : P.underlying mty = some (.map kt et)) (hk : P.underlying kt = some (.int .u8)) {w : World} {r : Nat} {es : Array MapEntry} {clock : Nat} (hb : w.heap[r]? = some (.map es clock)) (k : Int) {z : Value}
    (hz : ∀ w : World, (zeroValue et).run P w = .ok z w) (hf : Instr.findNow (.int .u8) (.int .u8 k) es.toList 0 = some none) :
    (Instr.lookup mty (.map (some r)) (.int .u8 k) true).run P w = .ok (.tuple #[z, .bool false]) w := by
  have hc : (Instr.checkKey es.isEmpty 10000 kt (.int .u8 k)).run P w = .ok () w := MapKept.run_checkKey hk (by simp [MapKept.IsKey]) _ 9999
  simp [Instr.lookup, run_underlying hm, MapKept.run_getObj_map hb, hc, MapKept.run_findKey hk hf, Result.andThen, hz]
end

/-- what each kind of network does -/
def saysE : Array MapEntry := #[{ key := .int .u8 0, val := .func (.func 48) #[] #[], born := 0 }, { key := .int .u8 1, val := .func (.func 48) #[] #[], born := 1 }, { key := .int .u8 2, val := .func (.func 49) #[] #[], born := 2 }, { key := .int .u8 3, val := .func (.func 50) #[] #[], born := 3 }, { key := .int .u8 4, val := .func (.func 51) #[] #[], born := 4 }]
set_option maxRecDepth 100000 in
theorem says_any (w : World) : Calls Try.prog 33 #[] w fun e w' => e = .returned (.map (some w.heap.size)) ∧ w' = w.alloc (.map saysE 5) := by
  have hmm := @run_makeMap Try.prog
  have u := fun es c k v hf => run_upd8 (P := Try.prog) Try.underlying104 Try.underlying5 w es c k v hf
  have u0 := u #[] 0 0 (.func (.func 48) #[] #[]) rfl
  have u1 := u #[{ key := .int .u8 0, val := .func (.func 48) #[] #[], born := 0 }] 1 1 (.func (.func 48) #[] #[]) rfl
  have u2 := u #[{ key := .int .u8 0, val := .func (.func 48) #[] #[], born := 0 }, { key := .int .u8 1, val := .func (.func 48) #[] #[], born := 1 }] 2 2 (.func (.func 49) #[] #[]) rfl
  have u3 := u #[{ key := .int .u8 0, val := .func (.func 48) #[] #[], born := 0 }, { key := .int .u8 1, val := .func (.func 48) #[] #[], born := 1 }, { key := .int .u8 2, val := .func (.func 49) #[] #[], born := 2 }] 3 3 (.func (.func 50) #[] #[]) rfl
  have u4 := u #[{ key := .int .u8 0, val := .func (.func 48) #[] #[], born := 0 }, { key := .int .u8 1, val := .func (.func 48) #[] #[], born := 1 }, { key := .int .u8 2, val := .func (.func 49) #[] #[], born := 2 }, { key := .int .u8 3, val := .func (.func 50) #[] #[], born := 3 }] 4 4 (.func (.func 51) #[] #[]) rfl
  clear u
  go_enter Try.func33, Try.ntmps33
  go_wp2
  go_ret
  exact ⟨rfl, rfl⟩

def maskI (b : Int) : Int := if 32 < b then 0 else 4294967295 * 2 ^ (32 - b).toNat % 4294967296
set_option maxRecDepth 100000 in
theorem mask_any (b : Int) (hb : 0 ≤ b ∧ b ≤ 255) (w : World) : Calls Try.prog 36 #[.int .u8 b] w fun e w' => e = .returned (.int .u32 (maskI b)) ∧ w' = w := by
  go_enter Try.func36, Try.ntmps36
  go_wp2
  all_goals go_ret
  · refine ⟨?_, rfl⟩
    rw [maskI, if_pos (by assumption)]; rfl
  · refine ⟨?_, rfl⟩
    rw [maskI, if_neg (by omega)]; rfl
end Go.Proofs.Ytdilbcmnfpmijaa
