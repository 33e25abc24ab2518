/- The plain law. Own work. -/
import Derived.Test.YtgolgnbgomhknaaCkP2
section
set_option maxRecDepth 100000
set_option linter.unusedVariables false
set_option linter.unusedSimpArgs false
namespace Go.Am.Pl
open Go
theorem law_FnCasOk (code : List Int) (hl : code.length ≤ 9223372036854775807) (hb : ∀ y ∈ code, 0 ≤ y ∧ y ≤ 255) : z08j code = some true := by
  unfold z08j
  by_cases hz : 1048576 < (code.length : Int)
  · rw [if_pos (decide_eq_true hz)]
  rw [if_neg (by simpa using hz)]
  obtain ⟨⟨n, c⟩, e, hn, hc⟩ := drawCasOk code hb
  dsimp only at hn hc
  have sn := hn.small
  have sc := hc.small (by omega)
  rw [e, Option.bind_some]
  dsimp only
  rw [z0og n c sn sc, Option.bind_some, z0iv n c sn sc, Option.bind_some, if_pos (by simp)]
  by_cases h : casB n c = true
  · rw [if_pos h]
    have h' := h
    simp only [casB, Bool.and_eq_true, z02t] at h'
    obtain ⟨a1, a2, a3, a4, a5, a6, a7⟩ := h'
    rw [z0oh n c.marks sn sc.1, Option.bind_some, if_pos a1, z0ht _ sc.2.2.1, Option.bind_some, if_pos a3, z0qn a1, Option.bind_some]
    unfold stateB at a7
    by_cases h1 : c.state = 1
    · have a8 : atI c.marks 1 = 0 := by rw [h1] at a7; simpa using a7
      rw [h1, a8]; rfl
    · rw [decide_eq_false h1] at a7
      simp only [cond_false, Bool.and_eq_true] at a7
      rw [if_pos a7.2, if_neg (by simpa using h1), a7.1]
  · rw [if_neg h, z0qh n c sn sc, Option.bind_some]
    have e2 : stopB n c = (c, false) := by unfold stopB; rw [Bool.eq_false_iff.2 h]; rfl
    rw [e2]
    dsimp only
    rw [if_neg (by simp), z11u c c sc, Option.bind_some, if_pos (by simp), gu_Ok, Option.bind_some]
end Go.Am.Pl
end
