/- The plain law. Own work. -/
import Derived.Test.YtcbpckbehdaloaaLcP1
section
/- FnExactLogCase: the plain law. Own work. -/
set_option maxRecDepth 100000
set_option linter.unusedVariables false
set_option linter.unusedSimpArgs false
namespace Go.Am.Pl
open Go

def caseE (k : Int) (r : GReq) : List GReq := if 2 ≤ r.kind ∧ r.kind ≤ 4 ∧ r.case = k then [r] else []
theorem caseE_len (k : Int) (r : GReq) : (caseE k r).length ≤ 1 := by unfold caseE; split <;> simp
theorem caseE_mem {k : Int} {log : List GReq} {r : GReq} (h : r ∈ log.flatMap (caseE k)) : r ∈ log := by
  obtain ⟨x, hx, hr⟩ := List.mem_flatMap.1 h
  unfold caseE at hr; split at hr
  · simp at hr; subst hr; exact hx
  · simp at hr
theorem pre_small {α γ : Type} {l pre suf : List α} {x : α} {s : List γ} {e : α → List γ} (hl : l.length ≤ SMALL) (a : l = pre ++ x :: suf) (he : ∀ x, (e x).length ≤ 1) (hs : s = pre.flatMap e) {y : γ} : s.length + [y].length ≤ SMALL := by
  have h1 := flat_len he pre
  rw [a, List.length_append, List.length_cons] at hl
  rw [hs, List.length_singleton]; omega
theorem spec_LogCase (log : List GReq) (k : Int) (hl : log.length ≤ SMALL) (hd : ∀ r ∈ log, r.data.length ≤ SMALL) : m_spec_LogCase log k = some (log.flatMap (caseE k)) := by
  unfold m_spec_LogCase
  refine emit_scan log hl (caseE k) (m_spec_LogCase_l0 log k m_spec_LogCase_k1) _ (fun n s => ?_) (fun n pre x suf s a b c d g i => ?_)
  · rw [m_spec_LogCase_l0, if_neg (by simp)]; rfl
  · rw [m_spec_LogCase_l0, if_pos (decide_eq_true d)]
    have hq : m_spec_l10Req x = some x := by unfold m_spec_l10Req; rw [gd_pos (by simpa using hd x c)]; rfl
    simp only [b, Option.bind_some, hq, gd_pos (pre_small hl a (caseE_len k) i), gd_pos g]
    unfold caseE
    by_cases h1 : 2 ≤ x.kind <;> by_cases h2 : x.kind ≤ 4 <;> by_cases h3 : x.case = k <;> simp [h1, h2, h3]
theorem impl_LogCase (log : List GReq) (k : Int) (hl : log.length ≤ SMALL) (hd : ∀ r ∈ log, r.data.length ≤ SMALL) : m_impl_LogCase log k = some (log.flatMap (caseE k)) := by
  unfold m_impl_LogCase
  refine emit_scan log hl (caseE k) (m_impl_LogCase_l0 log k (log.length : Int) m_impl_LogCase_k1) _ (fun n s => ?_) (fun n pre x suf s a b c d g i => ?_)
  · rw [m_impl_LogCase_l0, if_neg (by simp)]; rfl
  · rw [m_impl_LogCase_l0, if_pos (decide_eq_true d)]
    have hq : m_impl_EngReq_clone x = some x := by unfold m_impl_EngReq_clone m_impl_cloneInts; rw [gd_pos (by simpa using hd x c)]; rfl
    simp only [b, Option.bind_some, hq, gd_pos (pre_small hl a (caseE_len k) i), gd_pos g, m_impl_in]
    unfold caseE
    by_cases h1 : 2 ≤ x.kind <;> by_cases h2 : x.kind ≤ 4 <;> by_cases h3 : x.case = k <;> simp [h1, h2, h3]
theorem cGReq_cap {l : List GReq} (hl : l.length ≤ 1048576) (h : ∀ r ∈ l, GReq.lens (· ≤ 1048576) r) : cntS cGReq l ≤ 1048586 * 1048576 :=
  cntS_cap (fun r hr => by have := h r hr; unfold GReq.lens at this; have := cI1_cap this; unfold cGReq; omega) hl
theorem law_LogCase (log : List GReq) (k : Int) (hl : log.length ≤ 9223372036854775807) (hd : ∀ r ∈ log, GReq.lens (· ≤ 9223372036854775807) r) (hk : ok64 k) : m_laws_FnExactLogCase log k = some true := by
  unfold m_laws_FnExactLogCase
  rw [c_szEngReqS _ _ ⟨by omega, by omega, hl, hd⟩, Option.bind_some]
  by_cases hz : szR 1048576 (log.length + sumW GReq.W log) < 0
  · rw [if_pos (decide_eq_true hz)]
  have e1 := szR_ge hz
  rw [if_neg (by simpa using hz)]
  have hl2 : log.length ≤ 1048576 := by omega
  have hd2 : ∀ r ∈ log, GReq.lens (· ≤ 1048576) r := fun r hr => by have := sumW_mem (f := GReq.W) hr; unfold GReq.lens; unfold GReq.W at this e1; omega
  have hd3 : ∀ r ∈ log, r.data.length ≤ SMALL := fun r hr => sm (hd2 r hr)
  have ol := flat_len (caseE_len k) log
  have om : ∀ r ∈ log.flatMap (caseE k), GReq.lens (· ≤ 1048576) r := fun r hr => hd2 r (caseE_mem hr)
  have om3 : ∀ r ∈ log.flatMap (caseE k), okGReq r := fun r hr => hd3 r (caseE_mem hr)
  have hB : BIG = 4000000000000000000 := rfl
  have b1 := cGReq_cap hl2 hd2
  have b2 := cGReq_cap (l := log.flatMap (caseE k)) (by omega) om
  simp only [c_toEngReqS log ⟨hl2, hd2⟩, spec_LogCase log k (sm hl2) hd3, impl_LogCase log k (sm hl2) hd3, c_eqEngReqS log log ⟨hl2, hd2, hd2⟩, c_eqEngReqS (log.flatMap (caseE k)) _ ⟨Nat.le_trans ol hl2, om, om⟩, Option.bind_some, decide_true, if_true,
    mark_EngReqS log 1 hd3 (sm hl2) (by omega) (by omega), mark_EngReqS (log.flatMap (caseE k)) 1 om3 (sm (Nat.le_trans ol hl2)) (by omega) (by omega), held_EngReqS (log.flatMap (caseE k)) 1 om3 (sm (Nat.le_trans ol hl2)) (by omega) (by omega)]
  repeat rw [if_neg (by simp; omega)]

end Go.Am.Pl

end
