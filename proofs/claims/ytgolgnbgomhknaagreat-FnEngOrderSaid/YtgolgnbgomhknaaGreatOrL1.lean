/- The plain law. Own work. -/
import Derived.Test.YtgolgnbgomhknaaGreatOrP2
set_option maxRecDepth 100000
set_option linter.unusedVariables false
set_option linter.unusedSimpArgs false
section
namespace Go.Am.Pl
open Go
theorem v9p (p : Prop) [Decidable p] : (if p then some true else some true) = some true := by split <;> rfl
theorem law_FnEngOrder (code more : List Int) (hl : code.length ≤ 9223372036854775807) (hb : ∀ y ∈ code, 0 ≤ y ∧ y ≤ 255) (ml : more.length ≤ 9223372036854775807) (mb : ∀ y ∈ more, 0 ≤ y ∧ y ≤ 255) : zk5 code more = some true := by
  unfold zk5
  by_cases hz : 1048576 < (code.length : Int)
  · rw [if_pos (zT hz)]
  rw [if_neg (by simpa using hz)]
  by_cases hz2 : 1048576 < (more.length : Int)
  · rw [if_pos (zT hz2)]
  rw [if_neg (by simpa using hz2)]
  obtain ⟨⟨h, q⟩, e, hh, hq⟩ := drawEngDo code hb
  obtain ⟨⟨g, r⟩, e2, hg, hr⟩ := drawEngDo more mb
  dsimp only at hh hq hg hr
  have hqs : q.data.length ≤ SMALL := by unfold SMALL; omega
  have hrs : r.data.length ≤ SMALL := by unfold SMALL; omega
  have lx := w3v (r := q) hh
  have sx := zw9 lx
  rw [e, zB, e2, zB]
  dsimp only
  rw [ya6 h q hh hqs, zB, v4x h q hh hqs, zB, v34 _ _ sx, zB, if_pos (by simp), if_pos (by simp)]
  simp only [yp5 r hrs, y4e r hrs, zB, beq_self_eq_true, if_true, gu_Ok, v9p]
  by_cases k1 : 2 ≤ q.kind
  case neg => rw [if_neg (by simpa using k1)]
  rw [if_pos (zT k1)]
  by_cases k2 : 2 ≤ r.kind
  case neg => rw [if_neg (by simpa using k2)]
  rw [if_pos (zT k2)]
  by_cases k3 : (engB h q).2 = 0
  · rw [if_pos (zT k3)]
  rw [if_neg (by simpa using k3)]
  by_cases k4 : reqB r = true
  case neg => rw [if_neg k4]
  rw [if_pos k4]
  by_cases k5 : q.kind ≤ 4
  case neg => rw [if_neg (by simpa using k5)]
  rw [if_pos (zT k5)]
  by_cases k6 : r.kind ≤ 4
  case neg => rw [if_neg (by simpa using k6)]
  rw [if_pos (zT k6)]
  by_cases k7 : q.case = r.case
  · rw [if_pos (zT k7)]
  rw [if_neg (by simpa using k7)]
  rcases v5p (h := h) (q := q) with ⟨h1, h2, e1⟩ | ⟨e1, _⟩
  case inr => rw [e1] at k3; exact absurd rfl k3
  have lz := w3v (r := r) hh
  rw [ya6 _ r lx hrs, zB, ya6 h r hh hrs, zB, ya6 _ q lz hqs, zB]
  have e3 : engB h r = doB h r := by unfold engB; rw [h1, k4]; rfl
  have e4 : engB (doB h q).1 r = doB (doB h q).1 r := by unfold engB; rw [w3s h1 h2, k4]; rfl
  have e5 : engB (doB h r).1 q = doB (doB h r).1 q := by unfold engB; rw [w3s h1 k4, h2]; rfl
  obtain ⟨o1, o2, o3⟩ := v5o (h := h) ⟨k1, k5⟩ ⟨k2, k6⟩ (zh3 h2) (zh3 k4) k7
  have sw := zw9 (w3v (r := r) lx)
  rw [v34 _ _ sw, zB]
  rw [e1, e3, e4, e5, o1, o2, o3, if_pos (by simp), if_pos (by simp)]
  simp
end Go.Am.Pl
end
