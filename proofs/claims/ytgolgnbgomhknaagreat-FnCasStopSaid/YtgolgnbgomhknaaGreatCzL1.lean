/- The plain law. Own work. -/
import Derived.Test.YtgolgnbgomhknaaGreatCzP2
section
set_option maxRecDepth 100000
set_option linter.unusedVariables false
set_option linter.unusedSimpArgs false
namespace Go.Am.Pl
open Go
theorem law_FnCasStop (code : List Int) (hl : code.length ≤ 9223372036854775807) (hb : ∀ y ∈ code, 0 ≤ y ∧ y ≤ 255) : z08x code = some true := by
  unfold z08x
  by_cases hz : 1048576 < (code.length : Int)
  · rw [if_pos (decide_eq_true hz)]
  rw [if_neg (by simpa using hz)]
  obtain ⟨⟨n, c⟩, e, hn, hc⟩ := drawCasStop code hb
  dsimp only at hn hc
  have sn := hn.small
  have sc := hc.small (by omega)
  rw [e, Option.bind_some]
  dsimp only
  rw [z0mi n c sn sc, Option.bind_some, z0x9 n c sn sc, Option.bind_some]
  by_cases h : casB n c = true ∧ c.state = 1
  · obtain ⟨h1, h2⟩ := h
    have e2 : stopB n c = (GCase.mk 3 c.marks [] c.data c.did, true) := by unfold stopB; rw [h1, decide_eq_true h2]; rfl
    have sx : (GCase.mk 3 c.marks [] c.data c.did).small := ⟨sc.1, Nat.zero_le _, sc.2.2.1, sc.2.2.2⟩
    have hok : casB n (GCase.mk 3 c.marks [] c.data c.did) = true := by have := z177 h1; rw [e2] at this; exact this
    have e3 : stopB n (GCase.mk 3 c.marks [] c.data c.did) = (GCase.mk 3 c.marks [] c.data c.did, false) := by unfold stopB; rw [decide_eq_false (show ¬ (3 : Int) = 1 by omega), Bool.and_false]; rfl
    have e4 : startB n [7] (GCase.mk 3 c.marks [] c.data c.did) 0 1 = (GCase.mk 3 c.marks [] c.data c.did, false) := by
      refine z0xg fun ht => ?_
      have := (z0zr ht).1.run
      exact absurd this (by show ¬ (3 : Int) = 1; omega)
    rw [e2]
    dsimp only
    rw [z150 _ _ sx, Option.bind_some, if_pos (by simp), if_pos (by simp), if_pos rfl, z0mi n _ sn sx, Option.bind_some, z0u6 n [7] _ 0 1 sn (by simp [SMALL]) sx, Option.bind_some, e3, e4]
    dsimp only
    rw [if_pos (by simp), if_pos (by simp), z10u _ _ sc.1, Option.bind_some, if_pos (by simp), z182 _ _ sc.2.2.2, Option.bind_some, if_pos (by simp), if_neg (by simp), if_neg (by simp), z0u5 n _ sn sx, Option.bind_some, hok]
  · have e2 : stopB n c = (c, false) := by
      unfold stopB
      have : (casB n c && decide (c.state = 1)) = false := by
        rw [Bool.eq_false_iff]; intro e; rw [Bool.and_eq_true, decide_eq_true_eq] at e; exact h e
      rw [this]; rfl
    rw [e2]
    dsimp only
    rw [z150 _ _ sc, Option.bind_some, if_pos (by simp), if_pos (by simp), if_neg (by simp), Option.bind_some, if_pos (by simp), z0ix n c sn sc, Option.bind_some]
    by_cases h1 : casB n c = true
    · rw [if_pos h1, if_neg (by rw [decide_eq_true_eq]; exact fun e => h ⟨h1, e⟩), gu_Ok, Option.bind_some]
    · rw [if_neg h1, gu_Ok, Option.bind_some]
end Go.Am.Pl
end
