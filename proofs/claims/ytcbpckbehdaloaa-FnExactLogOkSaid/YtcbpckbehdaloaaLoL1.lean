/- The plain law. Own work. -/
import Derived.Test.YtcbpckbehdaloaaLoP1
section
/- FnExactLogOk: the plain law. Own work. -/
set_option maxRecDepth 100000
set_option linter.unusedVariables false
set_option linter.unusedSimpArgs false
namespace Go.Am.Pl
open Go

theorem law_LogOk (log : List GReq) (hl : log.length ≤ 9223372036854775807) (hd : ∀ r ∈ log, GReq.lens (· ≤ 9223372036854775807) r) : m_laws_FnExactLogOk log = some true := by
  unfold m_laws_FnExactLogOk
  rw [c_szEngReqS _ _ ⟨by omega, by omega, hl, hd⟩, Option.bind_some]
  by_cases hz : szR 1048576 (log.length + sumW GReq.W log) < 0
  · rw [if_pos (decide_eq_true hz)]
  have e1 := szR_ge hz
  rw [if_neg (by simpa using hz)]
  have hl2 : log.length ≤ 1048576 := by omega
  have hd2 : ∀ r ∈ log, GReq.lens (· ≤ 1048576) r := fun r hr => by have := sumW_mem (f := GReq.W) hr; unfold GReq.lens; unfold GReq.W at this e1; omega
  have hl3 : log.length ≤ SMALL := by unfold SMALL; omega
  have hd3 : ∀ r ∈ log, r.data.length ≤ SMALL := fun r hr => by have := hd2 r hr; unfold GReq.lens at this; unfold SMALL; omega
  simp only [c_toEngReqS log ⟨hl2, hd2⟩, spec_LogOk log hl3 hd3, impl_LogOk log hl3 hd3, c_eqEngReqS log log ⟨hl2, hd2, hd2⟩, Option.bind_some, decide_true, if_true, beq_self_eq_true]

end Go.Am.Pl

end
