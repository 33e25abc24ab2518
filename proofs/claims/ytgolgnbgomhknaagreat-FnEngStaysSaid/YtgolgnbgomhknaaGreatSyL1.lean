/- The plain law. Own work. -/
import Derived.Test.YtgolgnbgomhknaaGreatSyP2
set_option maxRecDepth 100000
set_option linter.unusedVariables false
set_option linter.unusedSimpArgs false
section
namespace Go.Am.Pl
open Go
theorem law_FnEngStays (code : List Int) (hl : code.length ≤ 9223372036854775807) (hb : ∀ y ∈ code, 0 ≤ y ∧ y ≤ 255) : zk5 code = some true := by
  unfold zk5
  by_cases hz : 1048576 < (code.length : Int)
  · rw [if_pos (decide_eq_true hz)]
  rw [if_neg (by simpa using hz)]
  obtain ⟨⟨h, q⟩, e, hh, hq⟩ := drawEngDo code hb
  dsimp only at hh hq
  have hqs : q.data.length ≤ SMALL := by unfold SMALL; omega
  have sx := zl1 (v5v (r := q) hh)
  have sh := zl1 hh
  rw [e, Option.bind_some]
  dsimp only
  rw [v4h h q hh hqs, Option.bind_some, v53 h q hh hqs, Option.bind_some, v39 _ _ sx, Option.bind_some, if_pos (by simp), if_pos (by simp), wb3 h sh, Option.bind_some]
  rcases v5w (h := h) (q := q) with ⟨h1, h2, e1⟩ | ⟨e1, hn⟩
  · rw [if_pos h1, zv2 q hqs, Option.bind_some, if_pos h2]
    rw [e1] at sx ⊢
    have H := y20 h1 hh
    have ha := vh3 h q
    have f1 := wr7 h1 h2
    obtain ⟨_, f2, f3⟩ := wc6 H q (zo7 h2)
    have f4 := v1a (h := h) (r := q)
    have f5 : h.runs.length ≤ (doB h q).1.runs.length := by rw [vh4]; split <;> omega
    generalize (doB h q).1 = x at *
    generalize (doB h q).2 = n at *
    obtain ⟨xn, xp, xt, xr⟩ := x
    dsimp only at f2 f3 f4 f5 ⊢
    subst f2; subst f3
    refine scan0 h.nets (by have := sh.1.1; unfold SMALL at this; omega) (z36 h h.nets (z9i n h h.nets h.people xt xr)) (fun _ _ => some true) (fun f => ?_) (fun f pre y suf a b c d ih => ?_)
    · rw [z36, if_neg (by simp)]
      unfold z9i
      rw [wa2 _ sx, Option.bind_some, if_pos f1, yk5 _ _ sh.2.1, Option.bind_some, if_pos (by simp), if_pos (by rw [decide_eq_true_eq]; omega), if_pos (by rw [decide_eq_true_eq]; omega), if_pos (decide_eq_true ha.1), decide_eq_true ha.2]
    · have hy := sh.1.2 y (by rw [a]; simp)
      rw [z36, if_pos (decide_eq_true c), b, Option.bind_some, Option.bind_some, ve8 y y hy, Option.bind_some, if_pos (by simp), z00 d, ih]
  · have tail : ((z6h (engB h q).1 (GHouse.mk [] [] [] [])).bind fun x25 => (if x25 = true then (if decide ((engB h q).2 = 0) = true then ((zk7).bind fun x28 => (some x28)) else (some false)) else (some false))) = some true := by
      rw [e1, v39 _ _ wl1, Option.bind_some, if_pos (show decide (noHouse = GHouse.mk [] [] [] []) = true from decide_eq_true rfl), if_pos (by simp), gu_Ok, Option.bind_some]
    by_cases h1 : houseB h = true
    · rw [if_pos h1, zv2 q hqs, Option.bind_some, if_neg (fun h2 => hn ⟨h1, h2⟩)]; exact tail
    · rw [if_neg h1]; exact tail
end Go.Am.Pl
end
