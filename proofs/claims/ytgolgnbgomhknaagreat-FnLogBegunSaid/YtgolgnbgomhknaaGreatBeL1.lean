/- The plain law. Own work. -/
import Derived.Test.YtgolgnbgomhknaaGreatBeP2
set_option maxRecDepth 100000
set_option linter.unusedVariables false
set_option linter.unusedSimpArgs false
section
namespace Go.Am.Pl
open Go
theorem law_FnLogBegun (code more : List Int) (hl : code.length ≤ 9223372036854775807) (hb : ∀ y ∈ code, 0 ≤ y ∧ y ≤ 255) (ml : more.length ≤ 9223372036854775807) (mb : ∀ y ∈ more, 0 ≤ y ∧ y ≤ 255) : zm0 code more = some true := by
  unfold zm0
  by_cases hz : 1048576 < (code.length : Int)
  · rw [if_pos (zT hz)]
  rw [if_neg (by simpa using hz)]
  by_cases hz2 : 1048576 < (more.length : Int)
  · rw [if_pos (zT hz2)]
  rw [if_neg (by simpa using hz2)]
  obtain ⟨l, e1, hr1⟩ := drawLogBegun code hb
  obtain ⟨a1, a2⟩ := hr1.small (by omega)
  rw [e1, zB, ze8 l a1, zB, ws8 l a1, zB, if_pos (by simp)]
  obtain ⟨⟨h, lg⟩, e, hh, hr⟩ := drawLogFold more mb
  dsimp only at hh hr
  obtain ⟨s1, s2⟩ := hr.small (by omega)
  rw [e, zB]
  dsimp only
  have hd : Int.tdiv (l.length : Int) 2 = (l.length : Int) / 2 := Int.tdiv_eq_ediv_of_nonneg (by omega)
  have hl1 := hr1.1
  have hlg := hr.1
  have t1 : (l.take (Int.tdiv (l.length : Int) 2).toNat).length ≤ SMALL := by rw [List.length_take]; omega
  have tail : (gd ((2 : Int) ≠ 0 ∧ ok64 (Int.tdiv (l.length : Int) 2)) (gd ((0 : Int) ≤ (Int.tdiv (l.length : Int) 2) ∧ (Int.tdiv (l.length : Int) 2) ≤ (l.length : Int)) ((z1t (l.take (Int.tdiv (l.length : Int) 2).toNat)).bind fun x15 => ((z1t l).bind fun x16 => (if decide (x15 ≤ x16) = true then ((zm1).bind fun x18 => (some x18)) else (some false)))))) = some true := by
    rw [z00 (by rw [hd]; exact ⟨by omega, by constructor <;> omega⟩), z00 (by rw [hd]; exact ⟨by omega, by omega⟩), ze8 _ t1, zB, ze8 l a1, zB, if_pos (by rw [zE]; have := v26 l (Int.tdiv (l.length : Int) 2).toNat; omega), gu_Ok, zB]
  rw [ze8 l a1] at tail
  rw [v05 h lg hh s1 s2, zB]
  by_cases hf : (logFoldB h lg).2 = true
  · obtain ⟨A, B, C, D⟩ := v2u hf
    have hn := w5b lg h C
    have hsm := (zz2 hh).2.2.2.1
    have hbn : begunN lg ≤ lg.length := List.length_filter_le _ _
    unfold SMALL at hsm
    rw [if_pos hf, ze8 lg s1, zB, z00 (by constructor <;> omega), if_pos (by rw [zE, D, hn]; omega)]
    exact tail
  · rw [if_neg hf]; exact tail
end Go.Am.Pl
end
