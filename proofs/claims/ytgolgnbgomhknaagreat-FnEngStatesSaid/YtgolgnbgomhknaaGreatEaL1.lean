/- The plain law. Own work. -/
import Derived.Test.YtgolgnbgomhknaaGreatEaP2
set_option maxRecDepth 100000
set_option linter.unusedVariables false
set_option linter.unusedSimpArgs false
section
namespace Go.Am.Pl
open Go
theorem w8p : ∀ l : List GRun, (l.flatMap stE).length = l.length
  | [] => rfl
  | r :: l => by rw [List.flatMap_cons, zL, w8p l, zC]; show 1 + _ = _; omega
theorem v9b : ∀ l : List GRun, l.flatMap stE = l.map (fun r => r.case.state)
  | [] => rfl
  | r :: l => by rw [List.flatMap_cons, v9b l]; rfl
theorem st_at {l : List GRun} {i : Int} (h0 : 0 ≤ i) (h1 : i < l.length) : getI (l.flatMap stE) i = some (atI l i).case.state := by
  obtain ⟨j, rfl⟩ := Int.eq_ofNat_of_zero_le h0
  have h1 : j < l.length := by omega
  unfold atI
  rw [v9b, z2q, z2q, zI, List.getElem?_eq_getElem h1]; rfl
theorem law_FnEngStates (code more : List Int) (hl : code.length ≤ 9223372036854775807) (hb : ∀ y ∈ code, 0 ≤ y ∧ y ≤ 255) (ml : more.length ≤ 9223372036854775807) (mb : ∀ y ∈ more, 0 ≤ y ∧ y ≤ 255) : ze3 code more = some true := by
  unfold ze3
  by_cases hz : 1048576 < (code.length : Int)
  · rw [if_pos (zT hz)]
  rw [if_neg (by simpa using hz)]
  by_cases hz2 : 1048576 < (more.length : Int)
  · rw [if_pos (zT hz2)]
  rw [if_neg (by simpa using hz2)]
  obtain ⟨g, eg, hg⟩ := drawEngStates code hb
  have gs := (zv7 hg).2.2.2.1
  rw [eg, zB, y0d g gs, zB, w7x g gs, zB, va5 _ _ (by rw [w8p]; exact gs), zB, if_pos (by simp), if_pos (by rw [zE, w8p])]
  obtain ⟨⟨h, q⟩, e, hh, hq⟩ := drawEngDo more mb
  dsimp only at hh hq
  have hqs : q.data.length ≤ SMALL := by unfold SMALL; omega
  have sx := zv7 (v3x (r := q) hh)
  have sh := zv7 hh
  rw [e, zB]
  dsimp only
  rw [v2h h q hh hqs, zB]
  rcases v3y (h := h) (q := q) with ⟨h1, h2, e1⟩ | ⟨e1, hn⟩
  · rw [e1] at sx ⊢
    have ha := v9x h q
    have q0 := zv6 h2
    have f5 : h.runs.length ≤ (doB h q).1.runs.length := by rw [v9y]; split <;> omega
    have fst := fun (i : Int) (i0 : 0 ≤ i) (i1 : i < h.runs.length) => v3w (h := h) (r := q) q0 i0 i1
    rw [if_neg (by rw [zE]; omega), y0d h sh.2.2.2.1, zB, y0d _ sx.2.2.2.1, zB]
    generalize (doB h q).1 = x at *
    have hlen : (h.runs.flatMap stE).length = h.runs.length := w8p _
    refine scan0 (h.runs.flatMap stE) (by have := sh.2.2.2.1; unfold SMALL at this; omega) (z1p (h.runs.flatMap stE) (x.runs.flatMap stE) (z8a (h.runs.flatMap stE) (x.runs.flatMap stE))) (fun _ _ => some true) (fun f => ?_) (fun f pre y suf a b c d ih => ?_)
    · rw [z1p, if_neg (by simp)]
      unfold z8a
      rw [zT (by rw [w8p, w8p]; omega)]
    · rw [hlen] at c
      have g1 := st_at (l := h.runs) (i := (pre.length : Int)) (by omega) c
      have g2 := st_at (l := x.runs) (i := (pre.length : Int)) (by omega) (by omega)
      rw [z1p, if_pos (by rw [zE, hlen]; exact c)]
      simp only [g1, g2, zB]
      by_cases hs : (atI h.runs (pre.length : Int)).case.state = (atI x.runs (pre.length : Int)).case.state
      · rw [if_pos (zT hs), z00 d, ih]
      · rw [if_neg (by simpa using hs), if_pos (zT (fst _ (by omega) c (fun e => hs e.symm))), z00 d, ih]
  · rw [e1, if_pos (by simp), gu_Ok, zB]
end Go.Am.Pl
end
