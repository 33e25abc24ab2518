/- Plain laws, chapter 9: the house is in order. Own work. -/
import Derived.Test.YtcbpckbehdaloaaGreatEoP4
import Derived.Test.YtcbpckbehdaloaaGreatAmV
set_option maxRecDepth 100000
set_option linter.unusedVariables false
set_option linter.unusedSimpArgs false
namespace Go.Am.Pl
open Go

def runB (nets : List GNet) (r : GRun) : Bool := inB r.net 0 ((nets.length : Int) - 1) && casB (atI nets r.net) r.case
def netsB (nets : List GNet) : Bool := inB nets.length 1 3 && nets.all netB
def houseB (h : GHouse) : Bool := netsB h.nets && (pplB h.people && (rdrB h.tree && (!decide (5 < (h.runs.length : Int)) && h.runs.all (runB h.nets))))
def netsSmall (nets : List GNet) : Prop := nets.length ≤ SMALL ∧ ∀ n ∈ nets, n.small
def houseSmall (h : GHouse) : Prop := netsSmall h.nets ∧ h.people.length ≤ SMALL ∧ treeSmall h.tree ∧ h.runs.length ≤ SMALL ∧ ∀ r ∈ h.runs, r.case.small
theorem spec_l9Nets (nets : List GNet) (h : netsSmall nets) : m_spec_l9Nets nets = some (netsB nets) := by
  unfold m_spec_l9Nets netsB
  have := scan0 nets (by have := h.1; unfold SMALL at this; omega) (m_spec_l9Nets_l0 nets m_spec_l9Nets_k1) (fun _ suf => some (suf.all netB))
    (fun k => by rw [m_spec_l9Nets_l0, if_neg (by simp)]; rfl)
    (fun k pre x suf hl hg hlt hok ih => by
      rw [m_spec_l9Nets_l0, if_pos (decide_eq_true hlt), hg, Option.bind_some, spec_NetOk x (h.2 x (by rw [hl]; simp)), Option.bind_some, gd_pos hok, ih, iteB, List.all_cons])
  rw [this, spec_in, Option.bind_some, iteB]
theorem spec_EngOk (h : GHouse) (hs : houseSmall h) : m_spec_EngOk h = some (houseB h) := by
  obtain ⟨h1, h2, h3, h4, h5⟩ := hs
  unfold m_spec_EngOk houseB
  have := scan0 h.runs (by unfold SMALL at h4; omega) (m_spec_EngOk_l0 h m_spec_EngOk_k1) (fun _ suf => some (suf.all (runB h.nets)))
    (fun k => by rw [m_spec_EngOk_l0, if_neg (by simp)]; rfl)
    (fun k pre x suf hl hg hlt hok ih => by
      rw [m_spec_EngOk_l0, if_pos (decide_eq_true hlt), hg]
      simp only [Option.bind_some, gd_pos (ok_len1 h1.1), spec_in, gd_pos hok, ih, List.all_cons, runB]
      by_cases hn : inB x.net 0 ((h.nets.length : Int) - 1) = true
      · have hn' := inB_iff.1 hn
        rw [if_pos hn, getI_at h.nets hn'.1 (by omega), Option.bind_some, spec_CasOk _ _ (h1.2 _ (atI_mem h.nets hn'.1 (by omega))) (h5 x (by rw [hl]; simp)), Option.bind_some, iteB, hn]; rfl
      · rw [if_neg hn, Bool.eq_false_iff.2 hn]; rfl)
  rw [spec_l9Nets _ h1, spec_PplOk _ h2, spec_RdrOk _ h3, this]
  simp only [Option.bind_some, iteB, iteN]
theorem impl_EngOk (h : GHouse) (hs : houseSmall h) : m_impl_EngOk h = some (houseB h) := by
  obtain ⟨h1, h2, h3, h4, h5⟩ := hs
  unfold m_impl_EngOk houseB netsB
  have := scan0 h.runs (by unfold SMALL at h4; omega) (m_impl_EngOk_l0 h m_impl_EngOk_k1) (fun _ suf => some (suf.all (runB h.nets)))
    (fun k => by rw [m_impl_EngOk_l0, if_neg (by simp)]; rfl)
    (fun k pre x suf hl hg hlt hok ih => by
      rw [m_impl_EngOk_l0, if_pos (decide_eq_true hlt), hg]
      simp only [Option.bind_some, gd_pos (ok_len1 h1.1), impl_in, gd_pos hok, ih, List.all_cons, runB]
      by_cases hn : inB x.net 0 ((h.nets.length : Int) - 1) = true
      · have hn' := inB_iff.1 hn
        rw [if_pos hn, getI_at h.nets hn'.1 (by omega), Option.bind_some, impl_CasOk _ _ (h1.2 _ (atI_mem h.nets hn'.1 (by omega))) (h5 x (by rw [hl]; simp)), Option.bind_some, iteB, hn]; rfl
      · rw [if_neg hn, Bool.eq_false_iff.2 hn]; rfl)
  rw [ContainsFunc_GNet h.nets h1.1 _ (fun n => !netB n) (fun n hn => by unfold m_impl_EngOk_1; rw [impl_NetOk n (h1.2 n hn)]; rfl), impl_PplOk _ h2, impl_RdrOk _ h3, this, impl_in]
  simp only [Option.bind_some, iteB, iteN, all_not_any, Bool.and_assoc]

theorem small_task {t : GTask} (h : GTask.lens (· ≤ 1048576) t) : t.small := by
  obtain ⟨a, b, c⟩ := h; unfold GTask.small SMALL; omega
theorem small_net {n : GNet} (h : GNet.lens (· ≤ 1048576) n) : n.small := ⟨by have := h.1; dsimp only at this; unfold SMALL; omega, fun t ht => small_task (h.2 t ht)⟩
theorem small_case {c : GCase} (h : GCase.lens (· ≤ 1048576) c) : c.small := by
  obtain ⟨a, b, c, d⟩ := h; unfold GCase.small SMALL; omega
theorem small_house {h : GHouse} (hl : GHouse.lens (· ≤ 1048576) h) : houseSmall h := by
  obtain ⟨⟨a, b⟩, c, ⟨d, e⟩, f, g⟩ := hl
  skip
  exact ⟨⟨by unfold SMALL; omega, fun n hn => small_net (b n hn)⟩, by unfold SMALL; omega, ⟨by unfold SMALL; omega, fun x hx => by have := e x hx; unfold GNode.lens at this; unfold SMALL; omega⟩, by unfold SMALL; omega, fun r hr => small_case (g r hr)⟩

end Go.Am.Pl
