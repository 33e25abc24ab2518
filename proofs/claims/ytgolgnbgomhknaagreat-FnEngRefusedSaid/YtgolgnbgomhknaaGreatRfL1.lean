/- The plain law. Own work. -/
import Derived.Test.YtgolgnbgomhknaaGreatRfP2
section
set_option maxRecDepth 100000
set_option linter.unusedVariables false
set_option linter.unusedSimpArgs false
namespace Go.Am.Pl
open Go
theorem law_FnEngRefused (code : List Int) (hl : code.length ≤ 9223372036854775807) (hb : ∀ y ∈ code, 0 ≤ y ∧ y ≤ 255) : z09l code = some true := by
  unfold z09l
  by_cases hz : 1048576 < (code.length : Int)
  · rw [if_pos (decide_eq_true hz)]
  rw [if_neg (by simpa using hz)]
  obtain ⟨⟨h, q⟩, e, hh, hq⟩ := drawEngDo code hb
  dsimp only at hh hq
  have hqs : q.data.length ≤ SMALL := by unfold SMALL; omega
  have sx := z0ni (z1l5 (r := q) hh)
  rw [e, Option.bind_some]
  dsimp only
  rw [z1iq h q hh hqs, Option.bind_some, z1k4 h q hh hqs, Option.bind_some, z1in _ _ sx, Option.bind_some, if_pos (by simp), if_pos (by simp)]
  rcases z1l6 (h := h) (q := q) with ⟨h1, h2, e1⟩ | ⟨e1, _⟩
  · have ha := z1ra h q
    rw [e1] at sx ⊢
    rw [if_neg (by rw [decide_eq_true_eq]; omega), z1in _ _ sx, Option.bind_some]
    have : (decide ((doB h q).1 = h) == !decide ((doB h q).2 = 1)) = true := by
      by_cases hd : (doB h q).2 = 1
      · rw [decide_eq_false (z1sr (z0fj h2) hd), decide_eq_true hd]; rfl
      · rw [decide_eq_true (z1rb hd), decide_eq_false hd]; rfl
    rw [if_pos this, gu_Ok, Option.bind_some]
  · rw [e1, if_pos (by simp), gu_Ok, Option.bind_some]
end Go.Am.Pl
end
