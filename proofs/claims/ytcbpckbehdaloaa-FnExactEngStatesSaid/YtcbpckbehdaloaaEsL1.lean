/- The plain law. Own work. -/
import Derived.Test.YtcbpckbehdaloaaEsP1
section
/- FnExactEngStates: the plain law. Own work. -/
set_option maxRecDepth 100000
set_option linter.unusedVariables false
set_option linter.unusedSimpArgs false
namespace Go.Am.Pl
open Go

def stE (r : GRun) : List Int := [r.case.state]
theorem pre_one {α γ : Type} {l pre suf : List α} {x : α} {s : List γ} {e : α → List γ} (hl : l.length ≤ SMALL) (a : l = pre ++ x :: suf) (he : ∀ x, (e x).length ≤ 1) (hs : s = pre.flatMap e) {y : γ} : s.length + [y].length ≤ SMALL := by
  have h1 := flat_len he pre
  rw [a, List.length_append, List.length_cons] at hl
  rw [hs, List.length_singleton]; omega
theorem spec_EngStates (h : GHouse) (hl : h.runs.length ≤ SMALL) : m_spec_EngStates h = some (h.runs.flatMap stE) := by
  unfold m_spec_EngStates
  refine emit_scan h.runs hl stE (m_spec_EngStates_l0 h m_spec_EngStates_k1) m_spec_EngStates_k1 (fun n s => ?_) (fun n pre x suf s a b c d g i => ?_)
  · rw [m_spec_EngStates_l0, if_neg (by simp)]
  · rw [m_spec_EngStates_l0, if_pos (decide_eq_true d), b, Option.bind_some, gd_pos (pre_one hl a (fun _ => Nat.le_refl _) i), gd_pos g]; rfl
theorem impl_EngStates (h : GHouse) (hl : h.runs.length ≤ SMALL) : m_impl_EngStates h = some (h.runs.flatMap stE) := by
  unfold m_impl_EngStates
  refine emit_scan h.runs hl stE (m_impl_EngStates_l0 h.runs (h.runs.length : Int) m_impl_EngStates_k1) m_impl_EngStates_k1 (fun n s => ?_) (fun n pre x suf s a b c d g i => ?_)
  · rw [m_impl_EngStates_l0, if_neg (by simp)]
  · rw [m_impl_EngStates_l0, if_pos (decide_eq_true d), b, Option.bind_some, gd_pos (pre_one hl a (fun _ => Nat.le_refl _) i), gd_pos g]; rfl
theorem okHouse {h : GHouse} (hs : houseSmall h) : okGHouse h := by
  obtain ⟨h1, h2, h3, h4, h5⟩ := hs
  exact ⟨⟨h1.1, fun n hn => ⟨(h1.2 n hn).1, fun t ht => (h1.2 n hn).2 t ht⟩⟩, h2, ⟨h3.1, fun x hx => h3.2 x hx⟩, ⟨h4, fun r hr => h5 r hr⟩⟩
theorem law_EngStates (h : GHouse) (hl : GHouse.lens (· ≤ 9223372036854775807) h) : m_laws_FnExactEngStates h = some true := by
  unfold m_laws_FnExactEngStates
  rw [c_szEngHouse _ _ ⟨by omega, by omega, hl⟩, Option.bind_some]
  by_cases hz : szR 1048576 (GHouse.W h) < 0
  · rw [if_pos (decide_eq_true hz)]
  have e1 := szR_ge hz
  rw [if_neg (by simpa using hz)]
  have h2 : GHouse.lens (· ≤ 1048576) h := GHouse.lens_of (by omega)
  have hs := small_house h2
  have hv := vHouse_le h
  have rl := flat_len (e := stE) (fun _ => Nat.le_refl _) h.runs
  have hr : h.runs.length ≤ 1048576 := h2.2.2.2.1
  have rv := cIntS (h.runs.flatMap stE)
  have hB : BIG = 4000000000000000000 := rfl
  simp only [c_toEngHouse h h2, spec_EngStates h hs.2.2.2.1, impl_EngStates h hs.2.2.2.1, c_eqEngHouse h h ⟨h2, h2⟩, c_eqIntS (h.runs.flatMap stE) _ (Nat.le_trans rl hr), Option.bind_some, decide_true, if_true,
    mark_EngHouse h 1 (okHouse hs) (by omega) (by omega), mark_IntS (h.runs.flatMap stE) 1 (sm (Nat.le_trans rl hr)) (by omega) (by omega), held_IntS (h.runs.flatMap stE) 1 (sm (Nat.le_trans rl hr)) (by omega) (by omega)]
  repeat rw [if_neg (by simp; omega)]

end Go.Am.Pl

end
