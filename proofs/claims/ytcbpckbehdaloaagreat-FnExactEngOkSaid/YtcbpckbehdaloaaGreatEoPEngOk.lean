/- FnExactEngOk: the plain law. Own work. -/
import Derived.Test.YtcbpckbehdaloaaGreatEoC3
import Derived.Test.YtcbpckbehdaloaaGreatEoP5
set_option linter.unusedSimpArgs false
set_option maxRecDepth 100000
set_option linter.unusedVariables false
namespace Go.Am.Pl
open Go Go.Proofs

theorem law_EngOk (h : GHouse) (hl : GHouse.lens (· ≤ 9223372036854775807) h) : m_laws_FnExactEngOk h = some true := by
  unfold m_laws_FnExactEngOk m_szEngHouse
  rw [@gd_pos _ (Classical.propDecidable _) _ _ ⟨by omega, by omega, hl⟩, Option.bind_some]
  by_cases hz : szR 1048576 (GHouse.W h) < 0
  · rw [if_pos (decide_eq_true hz)]
  · have h2 : GHouse.lens (· ≤ 1048576) h := GHouse.lens_of (by have := szR_ge hz; omega)
    have hs := small_house h2
    unfold m_toEngHouse m_eqEngHouse
    simp only [@gd_pos _ (Classical.propDecidable _) _ _ h2, @gd_pos _ (Classical.propDecidable _) _ _ (And.intro h2 h2), Option.bind_some, spec_EngOk h hs, impl_EngOk h hs]
    rw [if_neg (by simpa using hz)]
    simp

theorem k_EngOk (h : GHouse) (hl : GHouse.lens (· ≤ 9223372036854775807) h) : FnP Tryz.prog 6 [.row (GHouse.cells false h)] [.c (cB true)] :=
  c_laws_FnExactEngOk h true (law_EngOk h hl)

end Go.Am.Pl
