/- The plain law. Own work. -/
import Derived.Test.YtgolgnbgomhknaaGreatDvP2
set_option maxRecDepth 100000
set_option linter.unusedVariables false
set_option linter.unusedSimpArgs false
section
namespace Go.Am.Pl
open Go
theorem y50 {n : GNet} {p : List Int} {c : GCase} (h : ¬ (nextB n p c).2 = true) : (nextB n p c).1 = c := by
  unfold nextB at h ⊢
  cases e : casB n c && (pplB p && decide (c.state = 1))
  · rfl
  · rw [e] at h
    simp only [cond_true] at h ⊢
    split
    · rename_i h1; rw [if_pos h1] at h; rw [w5x h]
    · rename_i h1; rw [if_neg h1] at h
      cases e2 : pairs n p c (tasksB n c.marks c.busy) with
      | nil => rfl
      | cons d l =>
        rw [e2] at h
        have h : ¬ (startB n p c d.task d.who).2 = true := h
        show (startB n p c d.task d.who).1 = c
        rw [w4f h]
theorem yv8 (n : GNet) (p : List Int) : ∀ (k : Nat) (c : GCase), stepsB n p (k + 1) c = (nextB n p (stepsB n p k c)).1
  | 0, c => by
    show (if (nextB n p c).2 = true then stepsB n p 0 (nextB n p c).1 else c) = (nextB n p c).1
    split
    · rfl
    · rename_i h; exact (y50 h).symm
  | k + 1, c => by
    show (if (nextB n p c).2 = true then stepsB n p (k + 1) (nextB n p c).1 else c) = (nextB n p (if (nextB n p c).2 = true then stepsB n p k (nextB n p c).1 else c)).1
    split
    · exact yv8 n p k _
    · rename_i h
      exact (y50 h).symm
theorem law_FnDrvRun (code : List Int) (hl : code.length ≤ 9223372036854775807) (hb : ∀ y ∈ code, 0 ≤ y ∧ y ≤ 255) : zg5 code = some true := by
  unfold zg5
  by_cases hz : 1048576 < (code.length : Int)
  · rw [if_pos (zT hz)]
  rw [if_neg (by simpa using hz)]
  obtain ⟨⟨n, p, c, k⟩, e, hn, hp, hc, hk⟩ := drawDrvRun code hb
  dsimp only at hn hp hc hk
  have sn := hn.small
  have sc := hc.small (by omega)
  have sp : p.length ≤ SMALL := by unfold SMALL; omega
  have sd : ∀ j, (drvB n p c j).small := fun j => by
    unfold drvB
    split
    · exact ⟨Nat.zero_le _, Nat.zero_le _, Nat.zero_le _, Nat.zero_le _⟩
    · exact (yv7 n p _ c).small sc
  rw [e, zB]
  dsimp only
  rw [yf9 n p c k sn sp sc, zB, w5r n p c k sn sp sc, zB, yf7 _ _ (sd k), zB, if_pos (by simp)]
  by_cases h1 : 200 < k
  · have e1 : drvB n p c k = GCase.mk 0 [] [] [] [] := by unfold drvB; rw [if_pos h1]
    rw [if_pos (zT h1), e1, yf7 _ _ ⟨Nat.zero_le _, Nat.zero_le _, Nat.zero_le _, Nat.zero_le _⟩, zB, if_pos (by simp), gu_Ok, zB]
  rw [if_neg (by simpa using h1)]
  by_cases h2 : k < 1
  · have e1 : drvB n p c k = c := by unfold drvB; rw [if_neg h1, show k.toNat = 0 by omega]; rfl
    rw [if_pos (zT h2), e1, yf7 _ _ sc, zB, if_pos (by simp), gu_Ok, zB]
  rw [if_neg (by simpa using h2), y8c n p _ sn sp (sd k), zB]
  by_cases h3 : k = 200
  · rw [if_pos (zT h3)]
  have e1 : drvB n p c (k + 1) = (nextB n p (drvB n p c k)).1 := by
    unfold drvB
    rw [if_neg h1, if_neg (by omega), show (k + 1).toNat = k.toNat + 1 by omega, yv8]
  have s1 : (nextB n p (drvB n p c k)).1.small := by rw [← e1]; exact sd _
  rw [if_neg (by simpa using h3), z01 (by constructor <;> omega), yf9 n p c (k + 1) sn sp sc, zB, e1, yf7 _ _ s1, zB, if_pos (by simp)]
  by_cases h4 : (nextB n p (drvB n p c k)).2 = true
  · rw [if_pos h4]
  · rw [if_neg h4, yf7 _ _ s1, zB, zT (y50 h4)]
end Go.Am.Pl
end
