/- The plain law. Own work. -/
import Derived.Test.YtgolgnbgomhknaaGreatAgP2
set_option maxRecDepth 100000
set_option linter.unusedVariables false
set_option linter.unusedSimpArgs false
section
namespace Go.Am.Pl
open Go
theorem law_FnLogAgain (code : List Int) (hl : code.length ≤ 9223372036854775807) (hb : ∀ y ∈ code, 0 ≤ y ∧ y ≤ 255) : zn4 code = some true := by
  unfold zn4
  by_cases hz : 1048576 < (code.length : Int)
  · rw [if_pos (zT hz)]
  rw [if_neg (by simpa using hz)]
  obtain ⟨⟨h, lg⟩, e, hh, hr⟩ := drawLogFold code hb
  dsimp only at hh hr
  obtain ⟨s1, s2⟩ := hr.small (by omega)
  rw [e, zB]
  dsimp only
  rw [w31 h lg hh s1 s2, zB, v4d h lg hh s1 s2, zB, ww3 _ _ (z9c (v2d hh)), zB, if_pos (by simp), if_pos (by simp)]
  by_cases hf : (logFoldB h lg).2 = true
  · have A := wx6 hf
    have L1 := v2d (rs := lg) hh
    have L2 := v7m (rs := lg) L1
    obtain ⟨t1, t2⟩ := (vp9 (h := (logFoldB h lg).1) hr).small (by omega)
    rw [if_pos hf, w7q _ lg L1 s1 s2, zB, w31 _ _ L1 t1 t2, zB, A.2, if_pos (by rw [zE]; have := A.1; omega), if_pos rfl, ww3 _ _ (z9c L2), zB, zT rfl]
  · rw [if_neg hf, wm9 hf, ww3 _ _ wy2, zB, if_pos (show decide (noHouse = GHouse.mk [] [] [] []) = true from zT rfl), gu_Ok, zB]
end Go.Am.Pl
end
