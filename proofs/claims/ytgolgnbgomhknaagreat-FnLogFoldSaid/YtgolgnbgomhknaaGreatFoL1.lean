/- The plain law. Own work. -/
import Derived.Test.YtgolgnbgomhknaaGreatFoP2
set_option maxRecDepth 100000
set_option linter.unusedVariables false
set_option linter.unusedSimpArgs false
section
namespace Go.Am.Pl
open Go
theorem law_FnLogFold (code more : List Int) (hl : code.length ≤ 9223372036854775807) (hb : ∀ y ∈ code, 0 ≤ y ∧ y ≤ 255) (ml : more.length ≤ 9223372036854775807) (mb : ∀ y ∈ more, 0 ≤ y ∧ y ≤ 255) : zt0 code more = some true := by
  unfold zt0
  by_cases hz : 1048576 < (code.length : Int)
  · rw [if_pos (zT hz)]
  rw [if_neg (by simpa using hz)]
  by_cases hz2 : 1048576 < (more.length : Int)
  · rw [if_pos (zT hz2)]
  rw [if_neg (by simpa using hz2)]
  obtain ⟨⟨h, rs⟩, e1, hh, hr⟩ := drawLogRun code hb
  dsimp only at hh hr
  obtain ⟨a1, a2⟩ := hr.small (by omega)
  obtain ⟨b1, b2⟩ := (vr3 (h := h) hr).small (by omega)
  obtain ⟨⟨g, lg⟩, e, hg, hq⟩ := drawLogFold more mb
  dsimp only at hg hq
  obtain ⟨s1, s2⟩ := hq.small (by omega)
  have tail : ((z30 more).bind fun x17 => ((z5o x17.1 x17.2).bind fun x18 => ((z5q x17.1 x17.2).bind fun x19 => ((z0o x18.1 x19.1).bind fun x20 => (if x20 = true then (if (x18.2 == x19.2) = true then ((z5j x17.1 x17.2).bind fun x23 => (if x18.2 = true then ((z0o x23.1 x18.1).bind fun x25 => (if x25 = true then ((z89 x23.2 x17.2).bind fun x27 => (some x27)) else (some false))) else ((z0o x18.1 (GHouse.mk [] [] [] [])).bind fun x28 => (if x28 = true then ((ze0).bind fun x30 => (if x30 = true then (some true) else (some false))) else (some false))))) else (some false)) else (some false)))))) = some true := by
    rw [e, zB]
    dsimp only
    rw [w3d g lg hg s1 s2, zB, w3t g lg hg s1 s2, zB, yz3 _ _ (z63 (w7q hg)), zB, if_pos (by simp), if_pos (by simp), yt2 g lg hg s1 s2, zB]
    by_cases hf : (logFoldB g lg).2 = true
    · rw [if_pos hf, w8w hf, yz3 _ _ (z63 (w7q hg)), zB, if_pos (by simp), vx5 _ _ s1 s2, zB, zT rfl]
    · rw [if_neg hf, wo5 hf, yz3 _ _ wz6, zB, if_pos (show decide (noHouse = GHouse.mk [] [] [] []) = true from zT rfl), gu_Ok, zB, if_pos rfl]
  rw [e1, zB]
  dsimp only
  rw [yt2 h rs hh a1 a2, zB, w3d h _ hh b1 b2, zB, w3t h _ hh b1 b2, zB, yz3 _ _ (z63 (w7q hh)), zB, if_pos (by simp), if_pos (by simp), w2o h (z63 hh), zB]
  by_cases h1 : houseB h = true
  · rw [if_pos h1, w2p rs a1 a2, zB]
    by_cases h2 : logB rs = true
    · have F := v62 h1 h2
      have L := v81 (rs := rs) hh
      rw [if_pos h2, F, if_pos rfl, yz3 _ _ (z63 L), zB, if_pos (by simp)]
      exact tail
    · rw [if_neg h2]; exact tail
  · rw [if_neg h1]; exact tail
end Go.Am.Pl
end
