/- What a router that carries nothing for others says: plain. No program. -/
import Derived.Test.YtdilbcmnfpmijaaOriL
namespace Go.Proofs.Ytdilbcmnfpmijaa
open Go.RowKit Go.Lo

def capL (l : OLink) : OLink := if l.2.2.1 = 3 then l else (l.1, l.2.1, l.2.2.1, 65535)
theorem toL_cap (p : OPort) (t c : Int) (f : Int → Bool) (ht : t ≠ 3) (full : List Int) : toL p t 65535 f full = (toL p t c f full).map capL := by
  unfold toL
  rw [List.map_map]
  apply List.map_congr_left
  intro x _
  simp [capL, ht]
theorem sharedL_cap (p : OPort) (c : Int) : sharedL p 65535 = (sharedL p c).map capL := by
  unfold sharedL
  split <;> simp [capL, stubL]
theorem kindL_cap (p : OPort) (c : Int) : kindL p 65535 = (kindL p c).map capL := by
  unfold kindL
  split
  · rw [toL_cap p 1 c _ (by omega)]
    simp [capL]
  split
  · rw [toL_cap p 1 c _ (by omega)]
    simp [capL, stubL]
  split
  · exact toL_cap p 4 c _ (by omega) _
  · exact sharedL_cap p c
theorem linksL_cap (p : OPort) : linksL p true = (linksL p false).map capL := by
  unfold linksL
  split
  · rfl
  split
  · simp [capL, stubL]
  · exact kindL_cap p p.cost
theorem routerL_cap (ps : List OPort) : routerL ps true = (routerL ps false).map capL := by
  unfold routerL
  rw [List.map_flatMap]
  congr 1
  funext p
  exact linksL_cap p
end Go.Proofs.Ytdilbcmnfpmijaa
