/- The plain law. Own work. -/
import Derived.Test.YtcbpckbehdaloaaGreatDrP1
section
/- FnExactDrvRun: the plain law. Own work. -/
set_option maxRecDepth 100000
set_option linter.unusedVariables false
set_option linter.unusedSimpArgs false
namespace Go.Am.Pl
open Go

theorem okC {c : GCase} (h : c.small) : okGCase c := h
theorem drvB_lens (n : GNet) (people : List Int) (c : GCase) (steps : Int) (hc : GCase.lens (· ≤ 1048576) c) : GCase.lens (· ≤ 1048576) (drvB n people c steps) := by
  unfold drvB
  split
  · exact ⟨Nat.zero_le _, Nat.zero_le _, Nat.zero_le _, Nat.zero_le _⟩
  · exact (stepsB_bnd n people _ c).lens hc
theorem caseW_le {c : GCase} (rl : GCase.lens (· ≤ 1048576) c) : GCase.W c ≤ 4194304 := by
  have h1 := rl.1; have h2 := rl.2.1; have h3 := rl.2.2.1; have h4 := rl.2.2.2
  unfold GCase.W; dsimp only at h1 h2 h3 h4; omega
theorem law_DrvRun (n : GNet) (people : List Int) (c : GCase) (steps : Int) (hn : GNet.lens (· ≤ 9223372036854775807) n) (hp : people.length ≤ 9223372036854775807) (hc : GCase.lens (· ≤ 9223372036854775807) c)  (hst : ok64 steps) : m_laws_FnExactDrvRun n people c steps = some true := by
  unfold m_laws_FnExactDrvRun
  by_cases hp0 : (1048576 : Int) < (people.length : Int)
  · rw [if_pos (decide_eq_true hp0)]
  rw [if_neg (by simpa using hp0), c_szNetNet _ _ ⟨by omega, by omega, hn⟩, Option.bind_some]
  by_cases hz : szR 1048576 (GNet.W n) < 0
  · rw [if_pos (decide_eq_true hz)]
  have e1 := szR_ge hz
  rw [if_neg (by simpa using hz), e1.2, c_szCasCase _ _ ⟨by omega, by omega, hc⟩, Option.bind_some]
  by_cases hz2 : szR (1048576 - (GNet.W n : Int)) (GCase.W c) < 0
  · rw [if_pos (decide_eq_true hz2)]
  have e2 := szR_ge hz2
  rw [if_neg (by simpa using hz2)]
  have hp2 : people.length ≤ 1048576 := by omega
  have hp3 : people.length ≤ SMALL := by unfold SMALL; omega
  have hn2 : GNet.lens (· ≤ 1048576) n := GNet.lens_of (by omega)
  have hc2 : GCase.lens (· ≤ 1048576) c := GCase.lens_of (by omega)
  have sn := small_net hn2
  have sc := small_case hc2
  have on : okGNet n := ⟨sn.1, fun t ht => sn.2 t ht⟩
  have b1 := vNet_le n
  have b2 := vCase_le c
  have pv := cIntS people
  have hB : BIG = 4000000000000000000 := rfl
  have e3 := spec_DrvRun n people c steps sn hp3 sc
  have e4 := impl_DrvRun n people c steps sn hp3 sc
  have rl := drvB_lens n people c steps hc2
  generalize drvB n people c steps = r at *
  have sr := small_case rl
  have b3 := vCase_le r
  have b4 := caseW_le rl
  have g : ∀ k2 : Int, GCase.mk r.state (wGCase r k2).marks (wGCase r k2).busy (wGCase r k2).data (wGCase r k2).did = wGCase r k2 := fun k2 => rfl
  simp only [c_toNetNet n hn2, c_toIntS people hp2, c_toCasCase c hc2, e3, e4, c_eqNetNet n n ⟨hn2, hn2⟩, c_eqIntS people people hp2, c_eqCasCase c c ⟨hc2, hc2⟩, c_eqCasCase r _ ⟨rl, rl⟩, Option.bind_some, decide_true, if_true, beq_self_eq_true,
    mark_NetNet n 1 on (by omega) (by omega), mark_IntS people _ hp3 (show 0 ≤ 1 + (vGNet n : Int) by omega) (by omega), mark_CasCase c _ (okC sc) (show 0 ≤ 1 + (vGNet n : Int) + (cntS cI1 people : Int) by omega) (by omega), mark_CasCase r 1 (okC sr) (by omega) (by omega), g, held_CasCase r 1 (okC sr) (by omega) (by omega)]
  repeat rw [if_neg (by simp; omega)]

end Go.Am.Pl

end
