/- The plain law. Own work. -/
import Derived.Test.YtgolgnbgomhknaaGreatHaP2
set_option maxRecDepth 100000
set_option linter.unusedVariables false
set_option linter.unusedSimpArgs false
section
namespace Go.Am.Pl
open Go
theorem law_FnLogHalf (code : List Int) (hl : code.length ≤ 9223372036854775807) (hb : ∀ y ∈ code, 0 ≤ y ∧ y ≤ 255) : zs4 code = some true := by
  unfold zs4
  by_cases hz : 1048576 < (code.length : Int)
  · rw [if_pos (zT hz)]
  rw [if_neg (by simpa using hz)]
  obtain ⟨⟨h, lg⟩, e, hh, hr⟩ := drawLogFold code hb
  dsimp only at hh hr
  obtain ⟨s1, s2⟩ := hr.small (by omega)
  rw [e, zB]
  dsimp only
  rw [y9o h lg hh s1 s2, zB, v4a h lg hh s1 s2, zB, ww0 _ _ (z87 (w78 hh)), zB, if_pos (by simp), if_pos (by simp)]
  by_cases hf : (logFoldB h lg).2 = true
  · have hlen := hr.1
    have k0 : 0 ≤ Int.tmod (code.length : Int) ((lg.length : Int) + 1) := Int.tmod_nonneg _ (by omega)
    have k1 : Int.tmod (code.length : Int) ((lg.length : Int) + 1) < (lg.length : Int) + 1 := Int.tmod_lt_of_pos _ (by omega)
    generalize Int.tmod (code.length : Int) ((lg.length : Int) + 1) = k at k0 k1 ⊢
    obtain ⟨A, B, C⟩ := v37 hf k.toNat
    have L1 := w78 (rs := lg.take k.toNat) hh
    have L2 := w78 (rs := lg) hh
    have t1 : (lg.take k.toNat).length ≤ SMALL := by rw [List.length_take]; omega
    have t2 : (lg.drop k.toNat).length ≤ SMALL := by rw [List.length_drop]; omega
    rw [if_pos hf, z00 (by constructor <;> omega), z00 (by omega), z00 ⟨k0, by omega⟩, y9o h _ hh t1 (fun r hr => s2 r (List.mem_of_mem_take hr)), zB, z00 ⟨k0, by omega⟩, y9o _ _ L1 t2 (fun r hr => s2 r (List.mem_of_mem_drop hr)), zB, B, if_pos A, if_pos rfl, ww0 _ _ (z87 L2), zB, if_pos (by simp), w1k _ (z87 L1), zB, C]
  · rw [if_neg hf, wm6 hf, ww0 _ _ wx8, zB, if_pos (show decide (noHouse = GHouse.mk [] [] [] []) = true from zT rfl), gu_Ok, zB]
end Go.Am.Pl
end
