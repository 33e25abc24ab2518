/- FnExactCasStop: the plain law. Own work. -/
import Derived.Test.YtcbpckbehdaloaaCsC3
import Derived.Test.YtcbpckbehdaloaaCsP6
import Derived.Test.YtcbpckbehdaloaaCsPR
set_option maxRecDepth 100000
set_option linter.unusedVariables false
set_option linter.unusedSimpArgs false
namespace Go.Am.Pl
open Go

theorem okC {c : GCase} (h : c.small) : okGCase c := h
theorem cI1_len (l : List Int) : cntS cI1 l = l.length := by induction l with
  | nil => rfl
  | cons x l ih => simp only [cntS, cI1, ih, List.length_cons]; omega
theorem stop_lens (n : GNet) {c : GCase} (h : GCase.lens (· ≤ 1048576) c) : GCase.lens (· ≤ 1048576) (stopB n c).1 := by
  unfold stopB
  cases casB n c && decide (c.state = 1)
  · exact h
  · exact ⟨h.1, by simp, h.2.2.1, h.2.2.2⟩

theorem to_NetNet (x : GNet) (h : GNet.lens (· ≤ 1048576) x) : m_toNetNet x = some x := by unfold m_toNetNet; exact @gd_pos _ (Classical.propDecidable _) _ _ h
theorem to_CasCase (x : GCase) (h : GCase.lens (· ≤ 1048576) x) : m_toCasCase x = some x := by unfold m_toCasCase; exact @gd_pos _ (Classical.propDecidable _) _ _ h
theorem eq_NetNet (x y : GNet) (h : GNet.lens (· ≤ 1048576) x) (h2 : GNet.lens (· ≤ 1048576) y) : m_eqNetNet x y = some (decide (x = y)) := by unfold m_eqNetNet; exact @gd_pos _ (Classical.propDecidable _) _ _ ⟨h, h2⟩
theorem eq_CasCase (x y : GCase) (h : GCase.lens (· ≤ 1048576) x) (h2 : GCase.lens (· ≤ 1048576) y) : m_eqCasCase x y = some (decide (x = y)) := by unfold m_eqCasCase; exact @gd_pos _ (Classical.propDecidable _) _ _ ⟨h, h2⟩
theorem stop_W (n : GNet) (c : GCase) : GCase.W (stopB n c).1 ≤ GCase.W c := by
  unfold stopB
  cases casB n c && decide (c.state = 1)
  · exact Nat.le_refl _
  · simp [GCase.W]
theorem law_CasStop (n : GNet) (c : GCase) (hn : GNet.lens (· ≤ 9223372036854775807) n) (hc : GCase.lens (· ≤ 9223372036854775807) c) : m_laws_FnExactCasStop n c = some true := by
  unfold m_laws_FnExactCasStop
  rw [show m_szNetNet n 1048576 = some (szR 1048576 (GNet.W n)) by unfold m_szNetNet; exact @gd_pos _ (Classical.propDecidable _) _ _ ⟨by omega, by omega, hn⟩, Option.bind_some]
  by_cases hz : szR 1048576 (GNet.W n) < 0
  · rw [if_pos (decide_eq_true hz)]
  have e1 := szR_ge hz
  rw [if_neg (by simpa using hz), e1.2, show m_szCasCase c (1048576 - (GNet.W n : Int)) = some (szR (1048576 - (GNet.W n : Int)) (GCase.W c)) by unfold m_szCasCase; exact @gd_pos _ (Classical.propDecidable _) _ _ ⟨by omega, by omega, hc⟩, Option.bind_some]
  by_cases hz2 : szR (1048576 - (GNet.W n : Int)) (GCase.W c) < 0
  · rw [if_pos (decide_eq_true hz2)]
  have e2 := szR_ge hz2
  have hn2 : GNet.lens (· ≤ 1048576) n := GNet.lens_of (by omega)
  have hc2 : GCase.lens (· ≤ 1048576) c := GCase.lens_of (by omega)
  have hr := stop_lens n hc2
  have hB : BIG = 4000000000000000000 := rfl
  have sn := small_net hn2
  have sc := small_case hc2
  have sr := small_case hr
  have b1 := vNet_le n
  have b2 := vCase_le c
  have b3 := vCase_le (stopB n c).1
  have b4 := stop_W n c
  have on : okGNet n := ⟨sn.1, fun t ht => sn.2 t ht⟩
  rw [if_neg (by simpa using hz2)]
  have g : ∀ k : Int, GCase.mk (stopB n c).1.state (wGCase (stopB n c).1 k).marks (wGCase (stopB n c).1 k).busy (wGCase (stopB n c).1 k).data (wGCase (stopB n c).1 k).did = wGCase (stopB n c).1 k := fun k => rfl
  simp only [to_NetNet n hn2, to_CasCase c hc2, spec_CasStop n c sn sc, impl_CasStop n c sn sc, eq_NetNet n n hn2 hn2, eq_CasCase c c hc2 hc2, eq_CasCase _ _ hr hr, Option.bind_some, decide_true, if_true, beq_self_eq_true,
    mark_NetNet n 1 on (by omega) (by omega), mark_CasCase c _ (okC sc) (show 0 ≤ 1 + (vGNet n : Int) by omega) (by omega), mark_CasCase (stopB n c).1 1 (okC sr) (by omega) (by omega), g, held_CasCase (stopB n c).1 1 (okC sr) (by omega) (by omega)]
  rw [if_neg (by simp; omega), if_neg (by simp; omega), if_neg (by simp; omega)]

end Go.Am.Pl
