/- The plain law. Own work. -/
import Derived.Test.YtcbpckbehdaloaaCwP1
section
/- FnExactCasWork: the plain law. Own work. -/
set_option maxRecDepth 100000
set_option linter.unusedVariables false
set_option linter.unusedSimpArgs false
namespace Go.Am.Pl
open Go

/-- The parts of the case behind work are no longer than they were, but for what is done. -/
theorem workB_parts (n : GNet) (c : GCase) (k v num : Int) : (workB n c k v num).1.marks.length ≤ c.marks.length ∧ (workB n c k v num).1.busy.length ≤ c.busy.length ∧ (workB n c k v num).1.data.length ≤ c.data.length ∧
    ((workB n c k v num).1.did.length ≤ c.did.length ∨ ((workB n c k v num).1.did.length ≤ 61)) := by
  unfold workB
  cases e : casB n c && (decide (c.state = 1) && (inB k 0 ((c.busy.length : Int) - 1) && (inB v (-1) 2 && (inB num (-99) 99 && !decide ((c.did.length : Int) = 60)))))
  · exact ⟨Nat.le_refl _, Nat.le_refl _, Nat.le_refl _, .inl (Nat.le_refl _)⟩
  · rw [Bool.and_eq_true] at e
    have F := casB_facts e.1
    have h60 := F.didl
    have hg := giveB_len n c.marks (atI c.busy k).task (datB c.data v num)
    have hd : (datB c.data v num).length ≤ c.data.length := by rw [datB_len]; exact Nat.le_refl _
    show (doneB n c k (datB c.data v num)).1.marks.length ≤ _ ∧ _
    unfold doneB
    split
    · exact ⟨Nat.le_refl _, by simp, hd, .inl (Nat.le_refl _)⟩
    · split
      · split
        · exact ⟨hg, Nat.zero_le _, hd, .inr (by simp; omega)⟩
        · exact ⟨hg, by simp; omega, hd, .inr (by simp; omega)⟩
      · exact ⟨Nat.le_refl _, Nat.le_refl _, Nat.le_refl _, .inl (Nat.le_refl _)⟩
theorem okC {c : GCase} (h : c.small) : okGCase c := h
theorem law_CasWork (n : GNet) (c : GCase) (k v num : Int) (hn : GNet.lens (· ≤ 9223372036854775807) n) (hc : GCase.lens (· ≤ 9223372036854775807) c) (hk : ok64 k) (hv : ok64 v) (hnum : ok64 num) : m_laws_FnExactCasWork n c k v num = some true := by
  unfold m_laws_FnExactCasWork
  rw [c_szNetNet _ _ ⟨by omega, by omega, hn⟩, Option.bind_some]
  by_cases hz : szR 1048576 (GNet.W n) < 0
  · rw [if_pos (decide_eq_true hz)]
  have e1 := szR_ge hz
  rw [if_neg (by simpa using hz), e1.2, c_szCasCase _ _ ⟨by omega, by omega, hc⟩, Option.bind_some]
  by_cases hz2 : szR (1048576 - (GNet.W n : Int)) (GCase.W c) < 0
  · rw [if_pos (decide_eq_true hz2)]
  have e2 := szR_ge hz2
  rw [if_neg (by simpa using hz2)]
  have hn2 : GNet.lens (· ≤ 1048576) n := GNet.lens_of (by omega)
  have hc2 : GCase.lens (· ≤ 1048576) c := GCase.lens_of (by omega)
  have sn := small_net hn2
  have sc := small_case hc2
  have on : okGNet n := ⟨sn.1, fun t ht => sn.2 t ht⟩
  have b1 := vNet_le n
  have b2 := vCase_le c
  have hB : BIG = 4000000000000000000 := rfl
  obtain ⟨p1, p2, p3, p4⟩ := workB_parts n c k v num
  have rl : GCase.lens (· ≤ 1048576) (workB n c k v num).1 := ⟨Nat.le_trans p1 hc2.1, Nat.le_trans p2 hc2.2.1, Nat.le_trans p3 hc2.2.2.1, by rcases p4 with p4 | p4; exact Nat.le_trans p4 hc2.2.2.2; exact Nat.le_trans p4 (by decide)⟩
  have sr := small_case rl
  have b3 := vCase_le (workB n c k v num).1
  have b4 : GCase.W (workB n c k v num).1 ≤ 4194304 := by
    have h1 := rl.1; have h2 := rl.2.1; have h3 := rl.2.2.1; have h4 := rl.2.2.2
    unfold GCase.W; dsimp only at h1 h2 h3 h4; omega
  have g : ∀ k2 : Int, GCase.mk (workB n c k v num).1.state (wGCase (workB n c k v num).1 k2).marks (wGCase (workB n c k v num).1 k2).busy (wGCase (workB n c k v num).1 k2).data (wGCase (workB n c k v num).1 k2).did = wGCase (workB n c k v num).1 k2 := fun k2 => rfl
  simp only [c_toNetNet n hn2, c_toCasCase c hc2, spec_CasWork n c k v num sn sc, impl_CasWork n c k v num sn sc, c_eqNetNet n n ⟨hn2, hn2⟩, c_eqCasCase c c ⟨hc2, hc2⟩, c_eqCasCase (workB n c k v num).1 _ ⟨rl, rl⟩, Option.bind_some, decide_true, if_true, beq_self_eq_true,
    mark_NetNet n 1 on (by omega) (by omega), mark_CasCase c _ (okC sc) (show 0 ≤ 1 + (vGNet n : Int) by omega) (by omega), mark_CasCase (workB n c k v num).1 1 (okC sr) (by omega) (by omega), g, held_CasCase (workB n c k v num).1 1 (okC sr) (by omega) (by omega)]
  repeat rw [if_neg (by simp; omega)]

end Go.Am.Pl

end
