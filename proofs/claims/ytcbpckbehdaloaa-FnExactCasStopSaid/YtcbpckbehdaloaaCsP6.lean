/- Plain laws: copies; cases that are stopped. Own work. -/
import Derived.Test.YtcbpckbehdaloaaCsP3
set_option maxRecDepth 100000
set_option linter.unusedVariables false
set_option linter.unusedSimpArgs false
namespace Go.Am.Pl
open Go

theorem impl_cloneInts (l : List Int) (h : l.length ≤ SMALL) : m_impl_cloneInts l = some l := by unfold m_impl_cloneInts; rw [gd_pos (by simpa using h)]; rfl
theorem spec_l6Copy (c : GCase) (h : c.small) : m_spec_l6Copy c = some c := by
  obtain ⟨h1, h2, h3, h4⟩ := h
  unfold m_spec_l6Copy
  simp [gd, h1, h2, h3, h4]
theorem impl_CasClone (c : GCase) (h : c.small) : m_impl_CasCase_clone c = some c := by
  obtain ⟨h1, h2, h3, h4⟩ := h
  unfold m_impl_CasCase_clone
  simp [gd, impl_cloneInts, h1, h2, h3, h4]
def stopB (n : GNet) (c : GCase) : GCase × Bool := bif casB n c && decide (c.state = 1) then (GCase.mk 3 c.marks [] c.data c.did, true) else (c, false)
theorem spec_CasStop (n : GNet) (c : GCase) (hn : n.small) (hc : c.small) : m_spec_CasStop n c = some (stopB n c) := by
  unfold m_spec_CasStop stopB
  simp only [spec_l6Copy c hc, spec_CasOk n c hn hc, Option.bind_some]
  cases casB n c <;> by_cases hs : c.state = 1 <;> simp [hs]
theorem impl_running (n : GNet) (c : GCase) (hn : n.small) (hc : c.small) : m_impl_running n c = some (casB n c && decide (c.state = 1)) := by
  unfold m_impl_running
  simp only [impl_CasOk n c hn hc, Option.bind_some]
  cases casB n c <;> by_cases hs : c.state = 1 <;> simp [hs]
theorem impl_CasStop (n : GNet) (c : GCase) (hn : n.small) (hc : c.small) : m_impl_CasStop n c = some (stopB n c) := by
  unfold m_impl_CasStop stopB
  simp only [impl_CasClone c hc, impl_running n c hn hc, Option.bind_some]
  cases casB n c <;> by_cases hs : c.state = 1 <;> simp [hs]

end Go.Am.Pl
